/-
  The texts on which the last one leans, part 1.
-/
import Derived.Test.YtbflkcldjjpioaaDoorOk
import Derived.Lib.ItoaNum
import Derived.Lib.AtoiAllCases
import Derived.Lib.TrimByte
import Derived.Deep.CutRange
import Derived.Test.YtbflkcldjjpioaaDoorShelf
import Derived.Lib.AppendIntMem
import Derived.Lib.LaidU8
import Derived.Lib.SmallJoins
import Derived.Stop.LaidErr
import Derived.Test.YtbflkcldjjpioaaDoorShelfT
import Derived.Deep.CutBlock
import Derived.BigQuiet
import Derived.Deep.RegionHeld3
/-
  Norm, plainly.
-/
namespace Go.Proofs.YtbflkcldjjpioaaDoor
open Go.RowKit
set_option linter.unusedVariables false
set_option linter.unusedSimpArgs false

theorem pow_big {n : Int} {k : Nat} (hn : n ≠ 0) (h : inR (n * 10 ^ k)) : k ≤ 18 := by
  by_cases hk : k ≤ 18
  · exact hk
  · exfalso
    have h1 : (10 : Nat) ^ 19 ≤ 10 ^ k := Nat.pow_le_pow_right (by omega) (by omega)
    have h2 : (n * 10 ^ k).natAbs = n.natAbs * 10 ^ k := by rw [Int.natAbs_mul, Int.natAbs_pow]; rfl
    have h3 : 1 ≤ n.natAbs := by omega
    have h4 : 10 ^ k ≤ n.natAbs * 10 ^ k := Nat.le_mul_of_pos_left _ h3
    have h5 : (10 : Nat) ^ 19 = 10000000000000000000 := by decide
    unfold inR at h
    omega
theorem pow_pos_int (k : Nat) : (1 : Int) ≤ 10 ^ k := by
  have h : (0 : Int) < 10 ^ k := Int.pow_pos (by omega)
  omega
/-- What a number of 64 bits is a multiple of is one of 64 bits. -/
theorem inR_of_mul {n : Int} {k : Nat} (h : inR (n * 10 ^ k)) : inR n := by
  have h1 := pow_pos_int k
  unfold inR at *
  rcases Int.le_total 0 n with hn | hn
  · have := Int.mul_nonneg hn (show (0 : Int) ≤ 10 ^ k - 1 by omega)
    rw [Int.mul_sub] at this
    omega
  · have := Int.mul_nonneg (show (0 : Int) ≤ -n by omega) (show (0 : Int) ≤ 10 ^ k - 1 by omega)
    rw [Int.mul_sub, Int.neg_mul] at this
    omega
theorem tens_mul : ∀ (k : Nat) (n : Int), inR n → tens n k = if inR (n * 10 ^ k) then some (n * 10 ^ k) else none
  | 0, n, h => by rw [Int.pow_zero, Int.mul_one, if_pos h]; rfl
  | k + 1, n, h => by
    have e : n * 10 ^ (k + 1) = n * 10 * 10 ^ k := by rw [Int.pow_succ, Int.mul_comm (10 ^ k) 10, Int.mul_assoc]
    rw [e]
    unfold tens
    by_cases h1 : inR (n * 10)
    · rw [if_pos h1, tens_mul k _ h1]
    · rw [if_neg h1, if_neg (fun h2 => h1 (inR_of_mul h2))]
/-- A number without the noughts at its end, and its power. -/
def strip : Nat → Int → Int → Int × Int
  | 0, n, e => (n, e)
  | f + 1, n, e => if Int.tmod n 10 = 0 then strip f (Int.tdiv n 10) (e + 1) else (n, e)
theorem strip_of : ∀ (k f : Nat) (n n' e : Int), Int.tmod n' 10 ≠ 0 → n = n' * 10 ^ k → k ≤ f → strip f n e = (n', e + k)
  | 0, 0, n, n', e, h, hn, _ => by rw [hn, Int.pow_zero, Int.mul_one]; simp [strip]
  | 0, f + 1, n, n', e, h, hn, _ => by
    rw [hn, Int.pow_zero, Int.mul_one]
    unfold strip
    rw [if_neg h]
    simp
  | k + 1, 0, n, n', e, h, hn, hf => by omega
  | k + 1, f + 1, n, n', e, h, hn, hf => by
    have e1 : n = n' * 10 ^ k * 10 := by rw [hn, Int.pow_succ, Int.mul_assoc]
    unfold strip
    rw [if_pos (by rw [e1, Int.mul_tmod_left]), strip_of k f _ n' (e + 1) h (by rw [e1, Int.mul_tdiv_cancel _ (by omega)]) (by omega)]
    congr 1
    omega
theorem strip_ex : ∀ (N : Nat) (n : Int), n.natAbs ≤ N → n ≠ 0 → ∃ (n' : Int) (k : Nat), n = n' * 10 ^ k ∧ Int.tmod n' 10 ≠ 0
  | 0, n, h, h0 => by omega
  | N + 1, n, h, h0 => by
    by_cases hm : Int.tmod n 10 = 0
    · have e : Int.tdiv n 10 * 10 = n := by have := Int.tmod_add_mul_tdiv n 10; omega
      obtain ⟨n', k, h1, h2⟩ := strip_ex N (Int.tdiv n 10) (by omega) (by omega)
      exact ⟨n', k + 1, by rw [Int.pow_succ, ← Int.mul_assoc, ← h1, e], h2⟩
    · exact ⟨n, 0, by rw [Int.pow_zero, Int.mul_one], hm⟩
theorem tmod_ne {n : Int} (h : Int.tmod n 10 ≠ 0) : n ≠ 0 := by rintro rfl; exact h rfl
def V.nought : V := .mk 0 0 0 ⟨#[]⟩ []
def V.int (n : Int) : V := .mk 3 n 0 ⟨#[]⟩ []
def V.dec (n e : Int) : V := .mk 4 n e ⟨#[]⟩ []
/-- A number without noughts at its end, and its power, as a value. -/
def normV (n e : Int) : Option V := if 0 ≤ e ∧ inR (n * 10 ^ e.toNat) then some (V.int (n * 10 ^ e.toNat)) else if decOk n e then some (V.dec n e) else none
/-- Norm. -/
def normR (n e : Int) : Option V := if -1000 ≤ e ∧ e ≤ 1000 then (if n = 0 then some (V.int 0) else normV (strip 18 n e).1 (strip 18 n e).2) else none
theorem normR_out {n e : Int} (h : ¬ (-1000 ≤ e ∧ e ≤ 1000)) : normR n e = none := by unfold normR; rw [if_neg h]
theorem normR_zero {e : Int} (h : -1000 ≤ e ∧ e ≤ 1000) : normR 0 e = some (V.int 0) := by unfold normR; rw [if_pos h, if_pos rfl]
theorem normR_of {n e n' : Int} {k : Nat} (he : -1000 ≤ e ∧ e ≤ 1000) (hr : inR n) (h : Int.tmod n' 10 ≠ 0) (hn : n = n' * 10 ^ k) : normR n e = normV n' (e + k) := by
  have h0 := tmod_ne h
  have hk : k ≤ 18 := pow_big h0 (by rw [← hn]; exact hr)
  have hne : n ≠ 0 := by
    rw [hn]
    have := pow_pos_int k
    exact Int.mul_ne_zero h0 (by omega)
  unfold normR
  rw [if_pos he, if_neg hne, strip_of k 18 n n' e h hn hk]
/-- The power has come to 0. -/
theorem normR_whole {n e n1 : Int} {k : Nat} (he : -1000 ≤ e ∧ e ≤ 1000) (hr : inR n) (h0 : n1 ≠ 0) (hn : n = n1 * 10 ^ k) (hk : e + k = 0) : normR n e = some (V.int n1) := by
  obtain ⟨n', m, h1, h2⟩ := strip_ex n1.natAbs n1 (Nat.le_refl _) h0
  have hn2 : n = n' * 10 ^ (m + k) := by rw [hn, h1, Int.pow_add, Int.mul_assoc]
  have hr1 : inR n1 := inR_of_mul (k := k) (by rw [← hn]; exact hr)
  rw [normR_of he hr h2 hn2]
  have e1 : e + ((m + k : Nat) : Int) = m := by omega
  rw [e1]
  unfold normV
  rw [Int.toNat_natCast, ← h1, if_pos ⟨by omega, hr1⟩]
theorem normV_pos_some {n e : Int} (h : 0 ≤ e) (hr : inR (n * 10 ^ e.toNat)) : normV n e = some (V.int (n * 10 ^ e.toNat)) := by unfold normV; rw [if_pos ⟨h, hr⟩]
theorem normV_dec {n e : Int} (h : ¬ (0 ≤ e ∧ inR (n * 10 ^ e.toNat))) (hd : decOk n e) : normV n e = some (V.dec n e) := by unfold normV; rw [if_neg h, if_pos hd]
theorem normV_none {n e : Int} (h : ¬ (0 ≤ e ∧ inR (n * 10 ^ e.toNat))) (hd : ¬ decOk n e) : normV n e = none := by unfold normV; rw [if_neg h, if_neg hd]
def normD (n e : Int) : V := (normR n e).getD V.nought
def normB (n e : Int) : Bool := (normR n e).isSome
/-- What Norm hands back. -/
def NormRet (n e : Int) (w : World) (r : Ending) (w' : World) : Prop := r = .returned (.tuple #[(normD n e).agg none 0, .bool (normB n e)]) ∧ Below w.heap.size w w'
theorem normRet_some {n e : Int} {v : V} {w w' : World} {u : Value} (h : normR n e = some v) (hu : u = .tuple #[v.agg none 0, .bool true]) (hb : Below w.heap.size w w') : NormRet n e w (.returned u) w' := by
  unfold NormRet normD normB
  rw [h, hu]
  exact ⟨rfl, hb⟩
theorem normRet_none {n e : Int} {w w' : World} {u : Value} (h : normR n e = none) (hu : u = .tuple #[V.nought.agg none 0, .bool false]) (hb : Below w.heap.size w w') : NormRet n e w (.returned u) w' := by
  unfold NormRet normD normB
  rw [h, hu]
  exact ⟨rfl, hb⟩
/-- A right decimal number is a right value. -/
theorem okV_dec (n e : Int) : okV (V.dec n e) ↔ decOk n e := by
  unfold okV V.dec
  rw [V.right_eq]
  simp [ownOk, nodeOk, kidsOk, V.k, V.n, V.e, V.s, V.kids, V.nodes, Vs.nodes, Vs.right]
  intro _; decide
theorem okV_int (n : Int) : okV (V.int n) := by
  unfold okV V.int
  rw [V.right_eq]
  simp [ownOk, nodeOk, kidsOk, V.k, V.n, V.e, V.s, V.kids, V.nodes, Vs.nodes, Vs.right]
  try decide
end Go.Proofs.YtbflkcldjjpioaaDoor

/-
  Right numbers, and the greatest whole number that isn't above one, plainly.
-/
namespace Go.Proofs.YtbflkcldjjpioaaDoor
open Go.RowKit
set_option linter.unusedVariables false
set_option linter.unusedSimpArgs false

/-- A right number. -/
def numOk (v : V) : Prop := (v.k = 3 ∨ v.k = 4) ∧ okV v
theorem okV_leaf {v : V} (h : numOk v) : v.kids.length = 0 ∧ v.s.size = 0 ∧ (v.k = 3 → v.e = 0) ∧ (v.k = 4 → decOk v.n v.e) := by
  obtain ⟨hk, h1, _⟩ := h
  obtain ⟨_, ⟨h2, h3⟩, _⟩ := (V.right_eq _ _).1 h1
  unfold nodeOk at h2
  unfold kidsOk at h3
  rcases hk with hk | hk <;> simp [hk] at h2 h3
  · exact ⟨by rw [h3]; rfl, by rw [h2.2]; rfl, fun _ => h2.1, fun h => by omega⟩
  · exact ⟨by rw [h3]; rfl, by rw [h2.2]; rfl, fun h => by omega, fun _ => h2.1⟩
theorem ten_div (x : Int) (j : Nat) : x / 10 ^ j / 10 = x / 10 ^ (j + 1) := by
  rw [Int.ediv_ediv_of_nonneg (Int.le_of_lt (Int.pow_pos (by omega))), Int.pow_succ]
theorem floor_ten (x : Int) : (Int.tmod x 10 < 0 → Int.tdiv x 10 - 1 = x / 10) ∧ (¬ Int.tmod x 10 < 0 → Int.tdiv x 10 = x / 10) := by
  have h1 := Int.tmod_add_mul_tdiv x 10
  have h3 : -10 < Int.tmod x 10 ∧ Int.tmod x 10 < 10 := by
    constructor
    · have := Int.lt_tmod_of_pos x (show (0 : Int) < 10 by omega); omega
    · exact Int.tmod_lt_of_pos _ (by omega)
  omega
theorem tdiv_sign (x : Int) : Int.tdiv x 10 = if 0 ≤ x then x / 10 else -((-x) / 10) := by
  split
  · rename_i h; exact Int.tdiv_eq_ediv_of_nonneg h
  · rename_i h
    have e : x = -(-x) := by omega
    conv => lhs; rw [e]
    rw [Int.neg_tdiv, Int.tdiv_eq_ediv_of_nonneg (by omega)]
/-- What is left behind j steps of cutting off a digit. -/
def cutD (n : Int) (j : Nat) : Int := if 0 ≤ n then n / 10 ^ j else -((-n) / 10 ^ j)
theorem cutD_step (n : Int) (j : Nat) : Int.tdiv (cutD n j) 10 = cutD n (j + 1) := by
  rw [tdiv_sign]
  unfold cutD
  have hp : (0 : Int) ≤ 10 ^ j := Int.le_of_lt (Int.pow_pos (by omega))
  by_cases h : 0 ≤ n
  · have h1 : 0 ≤ n / 10 ^ j := Int.ediv_nonneg h hp
    simp only [if_pos h, if_pos h1, ten_div]
  · have h1 : 0 ≤ (-n) / 10 ^ j := Int.ediv_nonneg (by omega) hp
    simp only [if_neg h]
    by_cases h2 : 0 ≤ -(-n / 10 ^ j)
    · have h3 : -n / 10 ^ j = 0 := by omega
      rw [if_pos h2, ← ten_div, h3]; rfl
    · rw [if_neg h2, Int.neg_neg, ten_div]
theorem floor_neg {a D : Int} (hD : 0 < D) (h : a % D ≠ 0) : (-a) / D = -(a / D) - 1 := by
  have h1 := Int.emod_add_mul_ediv a D
  have h2 := Int.emod_nonneg a (by omega : D ≠ 0)
  have h3 := Int.emod_lt_of_pos a hD
  refine ((Int.ediv_emod_unique (r := D - a % D) hD).2 ⟨?_, by omega, by omega⟩).1
  rw [Int.mul_sub, Int.mul_neg]
  omega
theorem dec_floor {n : Int} {k : Nat} (hk : 1 ≤ k) (hm : Int.tmod n 10 ≠ 0) : (if n < 0 then cutD n k - 1 else cutD n k) = n / 10 ^ k := by
  have hp : (0 : Int) < 10 ^ k := Int.pow_pos (by omega)
  unfold cutD
  by_cases h : n < 0
  · rw [if_pos h, if_neg (by omega)]
    have hd : (-n) % 10 ^ k ≠ 0 := fun hz => by
      have h1 : (10 : Int) ∣ 10 ^ k := ⟨10 ^ (k - 1), by
        obtain ⟨m, rfl⟩ : ∃ m, k = m + 1 := ⟨k - 1, by omega⟩
        rw [Int.pow_succ, Int.mul_comm, Nat.add_sub_cancel]⟩
      have h2 := Int.emod_emod_of_dvd (-n) h1
      rw [hz] at h2
      have h3 := Int.tmod_add_mul_tdiv n 10
      apply hm
      have h4 : -10 < Int.tmod n 10 ∧ Int.tmod n 10 < 10 := by
        constructor
        · have := Int.lt_tmod_of_pos n (show (0 : Int) < 10 by omega); omega
        · exact Int.tmod_lt_of_pos _ (by omega)
      omega
    have h5 := floor_neg hp hd
    rw [Int.neg_neg] at h5
    exact h5.symm
  · rw [if_neg h, if_pos (by omega)]
/-- Whole. -/
noncomputable def wholeB (v : V) : Bool := decide (numOk v ∧ ¬ 0 < v.e)
noncomputable def wholeN (v : V) : Int := if numOk v ∧ ¬ 0 < v.e then v.n / 10 ^ (-v.e).toNat else 0
theorem whole_no {v : V} (h : ¬ (numOk v ∧ ¬ 0 < v.e)) : wholeB v = false ∧ wholeN v = 0 := ⟨decide_eq_false h, if_neg h⟩
theorem whole_yes {v : V} (h : numOk v ∧ ¬ 0 < v.e) : wholeB v = true ∧ wholeN v = v.n / 10 ^ (-v.e).toNat := ⟨decide_eq_true h, if_pos h⟩
end Go.Proofs.YtbflkcldjjpioaaDoor

/-
  DecText and ReadDec, plainly: a number's digits.
-/
namespace Go.Proofs.YtbflkcldjjpioaaDoor
open Go.RowKit
set_option linter.unusedVariables false

/-- The digits of a number, none for 0. -/
def dd (q : Nat) : List UInt8 := if q = 0 then [] else Lib.decDigits q
theorem dd_step (q : Nat) (h : q ≠ 0) : dd (q / 10) ++ [UInt8.ofNat (48 + q % 10)] = dd q := by
  unfold dd
  rw [if_neg h]
  by_cases h1 : q < 10
  · rw [if_pos (by omega), Lib.decDigits, dif_pos h1, show q % 10 = q by omega]; rfl
  · rw [if_neg (by omega)]
    conv => rhs; rw [Lib.decDigits, dif_neg h1]
theorem dd_pos (q : Nat) (h : q ≠ 0) : dd q = Lib.decDigits q := by unfold dd; rw [if_neg h]
theorem itoa_pos (n : Nat) : Lib.itoa (n : Int) = Lib.decDigits n := by
  unfold Lib.itoa
  rw [if_neg (by omega), Int.toNat_natCast]
theorem itoa_neg (n : Nat) (h : 0 < n) : Lib.itoa (-(n : Int)) = 45 :: Lib.decDigits n := by
  unfold Lib.itoa
  rw [if_pos (by omega), Int.natAbs_neg, Int.natAbs_natCast]
theorem dig_one : ∀ d : Fin 10, (⟨#[48, 49, 50, 51, 52, 53, 54, 55, 56, 57]⟩ : ByteArray).extract d.val (d.val + 1) = str [UInt8.ofNat (48 + d.val)] := by decide +kernel
theorem dig_at (d : Nat) (h : d < 10) : (⟨#[48, 49, 50, 51, 52, 53, 54, 55, 56, 57]⟩ : ByteArray).extract d (d + 1) = str [UInt8.ofNat (48 + d)] := dig_one ⟨d, h⟩
theorem nDigits_le (u k : Nat) (h : u < 10 ^ k) (hk : 1 ≤ k) : Lib.nDigits u ≤ k := by
  by_cases h0 : u = 0
  · subst h0; rw [Lib.nDigits_small (by omega)]; exact hk
  · refine Nat.le_of_not_lt fun hh => ?_
    have : 10 ^ (Lib.nDigits u - 1) ≤ u := by
      clear h hk hh
      induction u using Nat.strongRecOn with
      | ind u ih =>
        by_cases h1 : u < 10
        · rw [Lib.nDigits_small h1]; simp; omega
        · rw [Lib.nDigits_big h1]
          have := ih (u / 10) (by omega) (by omega)
          have hp := Lib.nDigits_pos (u / 10)
          obtain ⟨m, hm⟩ : ∃ m, Lib.nDigits (u / 10) = m + 1 := ⟨Lib.nDigits (u / 10) - 1, by omega⟩
          rw [hm] at this ⊢
          simp only [Nat.add_sub_cancel] at *
          rw [Nat.pow_succ]
          omega
    have h2 : 10 ^ k ≤ 10 ^ (Lib.nDigits u - 1) := Nat.pow_le_pow_right (by omega) (by omega)
    omega
theorem dec_len (u : Nat) (h : u < 10000000000000000000) : (Lib.decDigits u).length ≤ 19 := by
  rw [Lib.decDigits_length]
  exact nDigits_le u 19 (by omega) (by omega)
theorem dec_ne (u : Nat) : Lib.decDigits u ≠ [] := by
  intro h
  have := Lib.decDigits_length u
  have h2 := Lib.nDigits_pos u
  rw [h] at this
  simp at this
  omega
theorem dec_digit (u : Nat) : ∀ b ∈ Lib.decDigits u, 48 ≤ b.toNat ∧ b.toNat ≤ 57 := by
  induction u using Nat.strongRecOn with
  | ind u ih =>
    intro b hb
    rw [Lib.decDigits] at hb
    split at hb
    · simp only [List.mem_singleton] at hb
      subst hb
      rw [UInt8.toNat_ofNat']
      omega
    · rcases List.mem_append.1 hb with hb | hb
      · exact ih (u / 10) (by omega) b hb
      · simp only [List.mem_singleton] at hb
        subst hb
        rw [UInt8.toNat_ofNat']
        omega
/-- The number of some digits. -/
def dval (l : List UInt8) : Nat := l.foldl (fun n b => 10 * n + (b.toNat - 48)) 0
theorem dval_snoc (l : List UInt8) (b : UInt8) : dval (l ++ [b]) = 10 * dval l + (b.toNat - 48) := by simp [dval]
theorem dval_dec (u : Nat) : dval (Lib.decDigits u) = u := by
  induction u using Nat.strongRecOn with
  | ind u ih =>
    rw [Lib.decDigits]
    split
    · simp [dval]; omega
    · rw [dval_snoc, ih (u / 10) (by omega), UInt8.toNat_ofNat']
      omega
theorem parse_dec (l : List UInt8) : ∀ acc, (∀ b ∈ l, 48 ≤ b.toNat ∧ b.toNat ≤ 57) → l.foldl (fun n b => 10 * n + (b.toNat - 48)) acc < 18446744073709551616 → Lib.parseUint10 acc l = .ok (l.foldl (fun n b => 10 * n + (b.toNat - 48)) acc) := by
  induction l with
  | nil => intro acc _ _; rfl
  | cons b l ih =>
    intro acc hd hlt
    have hb := hd b (by simp)
    have hmono : ∀ (r : List UInt8) (a : Nat), a ≤ r.foldl (fun n b => 10 * n + (b.toNat - 48)) a := by
      intro r
      induction r with
      | nil => intro a; exact Nat.le_refl _
      | cons x r ih2 => intro a; rw [List.foldl_cons]; exact Nat.le_trans (by omega) (ih2 _)
    have hm := hmono l (10 * acc + (b.toNat - 48))
    rw [List.foldl_cons] at hlt
    rw [Lib.parseUint10, if_pos hb, if_neg (by omega), if_neg (by omega), List.foldl_cons, Nat.mul_comm acc 10]
    exact ih _ (fun x hx => hd x (by simp [hx])) hlt
theorem parseMag_dec (u : Nat) (h : u < 18446744073709551616) : Lib.parseMag (Lib.decDigits u) = .ok u := by
  unfold Lib.parseMag
  rw [if_neg (dec_ne u)]
  have hv := dval_dec u
  unfold dval at hv
  rw [parse_dec _ 0 (dec_digit u) (by rw [hv]; exact h), hv]
theorem atoi_itoa (v : Int) (h : -9223372036854775808 ≤ v ∧ v ≤ 9223372036854775807) : Lib.atoiAll (Lib.itoa v) = .ok v := by
  by_cases h0 : v < 0
  · obtain ⟨u, rfl⟩ : ∃ u : Nat, v = -(u : Int) := ⟨v.natAbs, by omega⟩
    rw [itoa_neg u (by omega)]
    unfold Lib.atoiAll
    have e : (45 : UInt8).toNat = 45 := rfl
    simp only [e, or_true, if_true]
    rw [parseMag_dec u (by omega)]
    simp
    omega
  · obtain ⟨u, rfl⟩ := Int.eq_ofNat_of_zero_le (show 0 ≤ v by omega)
    rw [itoa_pos]
    have hne := dec_ne u
    have hd := dec_digit u
    have hp := parseMag_dec u (by omega)
    revert hne hd hp
    generalize Lib.decDigits u = l
    intro hne hd hp
    cases l with
    | nil => exact absurd rfl hne
    | cons c r =>
      have hc := hd c (by simp)
      unfold Lib.atoiAll
      simp only [show ¬ (c.toNat = 43 ∨ c.toNat = 45) by omega, if_false]
      rw [hp]
      simp only [show ¬ c.toNat = 45 by omega, if_false, not_false_eq_true, true_and, false_and]
      rw [if_neg (by omega)]
end Go.Proofs.YtbflkcldjjpioaaDoor

/-
  The order of two numbers, plainly: their digits without noughts at the end.
-/
namespace Go.Proofs.YtbflkcldjjpioaaDoor
open Go.RowKit
set_option linter.unusedVariables false
set_option linter.unusedSimpArgs false

/-- Digits without the noughts at their end. -/
def cutZ (l : List UInt8) : List UInt8 := Lib.trimRightB l 48
theorem dropW_all : ∀ l : List UInt8, l.dropWhile (· == 48) = [] → ∀ b ∈ l, b = 48
  | [], _, b, hb => by cases hb
  | a :: l, h, b, hb => by
    by_cases ha : a = 48
    · subst ha
      rw [List.dropWhile_cons_of_pos (by rfl)] at h
      rcases List.mem_cons.1 hb with rfl | hb
      · rfl
      · exact dropW_all l h b hb
    · rw [List.dropWhile_cons_of_neg (by simpa using ha)] at h
      cases h
theorem dropW_split : ∀ l : List UInt8, l = List.replicate (l.length - (l.dropWhile (· == 48)).length) 48 ++ l.dropWhile (· == 48)
  | [] => rfl
  | a :: l => by
    by_cases ha : a = 48
    · subst ha
      rw [List.dropWhile_cons_of_pos (by rfl)]
      have h := dropW_split l
      have hl : (l.dropWhile (· == 48)).length ≤ l.length := (List.dropWhile_sublist _).length_le
      rw [List.length_cons, show l.length + 1 - (l.dropWhile (· == 48)).length = l.length - (l.dropWhile (· == 48)).length + 1 by omega, List.replicate_succ, List.cons_append, ← h]
    · rw [List.dropWhile_cons_of_neg (by simpa using ha)]
      simp
theorem dropW_head {l r : List UInt8} {a : UInt8} (h : l.dropWhile (· == 48) = a :: r) : a ≠ 48 := by
  induction l with
  | nil => cases h
  | cons b l ih =>
    by_cases hb : b = 48
    · subst hb
      rw [List.dropWhile_cons_of_pos (by rfl)] at h
      exact ih h
    · rw [List.dropWhile_cons_of_neg (by simpa using hb)] at h
      injection h with h1 h2
      subst h1
      exact hb
theorem cutZ_len (l : List UInt8) : (cutZ l).length ≤ l.length := by
  have : (l.reverse.dropWhile (· == 48)).length ≤ l.reverse.length := (List.dropWhile_sublist _).length_le
  unfold cutZ Lib.trimRightB
  rw [List.length_reverse]
  rw [List.length_reverse] at this
  exact this
theorem cutZ_split (l : List UInt8) : l = cutZ l ++ List.replicate (l.length - (cutZ l).length) 48 := by
  have h := congrArg List.reverse (dropW_split l.reverse)
  rw [List.reverse_reverse, List.reverse_append, List.reverse_replicate, List.length_reverse] at h
  unfold cutZ Lib.trimRightB
  rw [List.length_reverse]
  exact h
/-- The last of them is none. -/
theorem cutZ_last {l r : List UInt8} {a : UInt8} (h : cutZ l = r ++ [a]) : a ≠ 48 := by
  have h2 := congrArg List.reverse h
  unfold cutZ Lib.trimRightB at h2
  rw [List.reverse_reverse, List.reverse_append, List.reverse_singleton, List.singleton_append] at h2
  exact dropW_head h2
theorem cutZ_nil {l : List UInt8} (h : cutZ l = []) : ∀ b ∈ l, b = 48 := by
  have h2 := congrArg List.reverse h
  unfold cutZ Lib.trimRightB at h2
  rw [List.reverse_reverse] at h2
  intro b hb
  exact dropW_all l.reverse h2 b (by simpa using hb)
theorem dval_zeros : ∀ l : List UInt8, (∀ b ∈ l, b = 48) → dval l = 0 := by
  have h : ∀ l : List UInt8, (∀ b ∈ l, b = 48) → l.foldl (fun n b => 10 * n + (b.toNat - 48)) 0 = 0 := by
    intro l
    induction l with
    | nil => intro _; rfl
    | cons a l ih =>
      intro h
      have ha := h a (by simp)
      subst ha
      rw [List.foldl_cons]
      exact ih (fun b hb => h b (by simp [hb]))
  exact h
theorem cutZ_dec {u : Nat} (h : u ≠ 0) : cutZ (Lib.decDigits u) ≠ [] := by
  intro h2
  have := dval_zeros _ (cutZ_nil h2)
  rw [dval_dec] at this
  exact h this

theorem bl_tri : ∀ l m : List UInt8, (Op.bytesLess l m = true ∧ Op.bytesLess m l = false ∧ l ≠ m) ∨ (Op.bytesLess l m = false ∧ Op.bytesLess m l = false ∧ l = m) ∨ (Op.bytesLess l m = false ∧ Op.bytesLess m l = true ∧ l ≠ m)
  | [], [] => .inr (.inl ⟨rfl, rfl, rfl⟩)
  | [], b :: m => .inl ⟨rfl, rfl, by simp⟩
  | a :: l, [] => .inr (.inr ⟨rfl, rfl, by simp⟩)
  | a :: l, b :: m => by
    have ih := bl_tri l m
    by_cases h1 : a < b
    · have h2 : ¬ b < a := by intro h; have := UInt8.lt_iff_toNat_lt.1 h1; have := UInt8.lt_iff_toNat_lt.1 h; omega
      have h3 : a ≠ b := by rintro rfl; exact h2 h1
      exact .inl ⟨by simp [Op.bytesLess, h1], by simp [Op.bytesLess, h2, Ne.symm h3], by simp [h3]⟩
    · by_cases h2 : b < a
      · have h3 : a ≠ b := by rintro rfl; exact h1 h2
        exact .inr (.inr ⟨by simp [Op.bytesLess, h1, h3], by simp [Op.bytesLess, h2], by simp [h3]⟩)
      · have h3 : a = b := by
          apply UInt8.toNat_inj.1
          have e1 : ¬ a.toNat < b.toNat := fun h => h1 (UInt8.lt_iff_toNat_lt.2 h)
          have e2 : ¬ b.toNat < a.toNat := fun h => h2 (UInt8.lt_iff_toNat_lt.2 h)
          omega
        subst h3
        simpa [Op.bytesLess] using ih
theorem lessT_swap (a b : ByteArray) : lessT b a = - lessT a b := by
  unfold lessT
  rcases bl_tri a.toList b.toList with ⟨h1, h2, h3⟩ | ⟨h1, h2, h3⟩ | ⟨h1, h2, h3⟩
  · have h4 : (b.toList == a.toList) = false := by simpa using Ne.symm h3
    simp [h1, h2, h4]
  · have h4 : (b.toList == a.toList) = true := by simpa using h3.symm
    have h5 : (a.toList == b.toList) = true := by simpa using h3
    rw [h1, h2, h4, h5]
    rfl
  · have h4 : (a.toList == b.toList) = false := by simpa using h3
    simp [h1, h2, h4]
theorem lessI_swap (a b : Int) : lessI b a = - lessI a b := by
  unfold lessI
  repeat' split
  all_goals omega
theorem lessI_range (a b : Int) : -1 ≤ lessI a b ∧ lessI a b ≤ 1 := by
  unfold lessI
  repeat' split
  all_goals omega
theorem lessT_range (a b : ByteArray) : -1 ≤ lessT a b ∧ lessT a b ≤ 1 := by
  unfold lessT
  repeat' split
  all_goals omega

/-- The digits of a number. -/
def V.digs (v : V) : List UInt8 := Lib.decDigits v.n.natAbs
/-- How many digits a number has ahead of its point. -/
def V.mag (v : V) : Int := (v.digs.length : Int) + v.e
/-- The order of the sizes of two numbers that are not 0. -/
def sizeR (a b : V) : Int := if lessI a.mag b.mag = 0 then lessT (str (cutZ a.digs)) (str (cutZ b.digs)) else lessI a.mag b.mag
theorem sizeR_swap (a b : V) : sizeR b a = - sizeR a b := by
  unfold sizeR
  rw [lessI_swap a.mag b.mag, lessT_swap (str (cutZ a.digs)) (str (cutZ b.digs))]
  by_cases h : lessI a.mag b.mag = 0
  · rw [if_pos (by omega), if_pos h]
  · rw [if_neg (by omega), if_neg h]
theorem sizeR_range (a b : V) : -1 ≤ sizeR a b ∧ sizeR a b ≤ 1 := by
  have := lessI_range a.mag b.mag
  have := lessT_range (str (cutZ a.digs)) (str (cutZ b.digs))
  unfold sizeR
  split <;> omega
/-- A number's sign. -/
def sgR (v : V) : Int := lessI v.n 0
theorem sgR_cases (v : V) : (sgR v = -1 ∧ v.n < 0) ∨ (sgR v = 0 ∧ v.n = 0) ∨ (sgR v = 1 ∧ 0 < v.n) := by
  unfold sgR lessI
  repeat' split
  all_goals omega
/-- CompareNum. -/
noncomputable def cnR (a b : V) : Int := if numOk a ∧ numOk b then (if sgR a ≠ sgR b ∨ sgR a = 0 then lessI (sgR a) (sgR b) else sgR a * sizeR a b) else 2
theorem cnR_no {a b : V} (h : ¬ (numOk a ∧ numOk b)) : cnR a b = 2 := if_neg h
theorem cnR_sign {a b : V} (h : numOk a ∧ numOk b) (h2 : sgR a ≠ sgR b ∨ sgR a = 0) : cnR a b = lessI (sgR a) (sgR b) := by unfold cnR; rw [if_pos h, if_pos h2]
theorem cnR_pos {a b : V} (h : numOk a ∧ numOk b) (h1 : sgR a = 1) (h2 : sgR b = 1) : cnR a b = sizeR a b := by
  unfold cnR; rw [if_pos h, if_neg (by omega), h1]; omega
theorem cnR_neg {a b : V} (h : numOk a ∧ numOk b) (h1 : sgR a = -1) (h2 : sgR b = -1) : cnR a b = sizeR b a := by
  unfold cnR; rw [if_pos h, if_neg (by omega), h1, sizeR_swap a b]; omega
/-- The reference's digits, and its power. -/
def V.cutE (v : V) : Int := v.e + ((v.digs.length - (cutZ v.digs).length : Nat) : Int)
theorem V.cut_mag (v : V) : ((cutZ v.digs).length : Int) + v.cutE = v.mag := by
  have := cutZ_len v.digs
  unfold V.cutE V.mag
  omega
theorem numOk_n {v : V} (h : numOk v) : -20 ≤ v.e ∧ v.e ≤ 20 := by
  obtain ⟨h1, h2, h3, h4⟩ := okV_leaf h
  rcases h.1 with hk | hk
  · have := h3 hk; omega
  · have := h4 hk
    unfold decOk at this
    omega
end Go.Proofs.YtbflkcldjjpioaaDoor

/-
  DecText of the reference.
-/
namespace Go.Proofs.YtbflkcldjjpioaaDoor
open Go.RowKit
set_option linter.unusedVariables false

theorem str_cons (b : UInt8) (l : List UInt8) : str [b] ++ str l = str (b :: l) := by
  apply ByteArray.ext
  simp [str]
theorem strlen (l : List UInt8) : (str l).size = l.length := by simp [str, ByteArray.size]
theorem dd_cons (q u : Nat) (l : List UInt8) (h : q ≠ 0) (hl : dd q ++ l = dd u) : dd (q / 10) ++ (UInt8.ofNat (48 + q % 10) :: l) = dd u := by
  rw [← hl, ← dd_step q h]; simp

set_option maxHeartbeats 1000000 in
theorem specDecText_pos (u : Nat) (w : World) (h0 : 0 < u) (hu : u < 9223372036854775808) :
    Calls Tryd.prog 9 #[.int .i64 (u : Int)] w fun e w' => e = .returned (.string (str (Lib.itoa u))) ∧ w = w' := by
  have HR := Lib.hid (itoa_pos u)
  have HL := Lib.hid (dec_len u (by omega))
  have hz : ((u : Int) == 0) = false := by rw [beq_eq_false_iff_ne]; omega
  have hneg : decide ((u : Int) < 0) = false := decide_eq_false (by omega)
  go_enter Tryd.func9, Tryd.ntmps9
  go_wp2_with fail
  go_loop [3, 4] (fun o m => ∃ (q : Nat) (l : List UInt8), q ≤ u ∧ dd q ++ l = dd u ∧ m = .int .i64 (q : Int) ∧ o = .string (str l)) (fun _ m => (intOf m).toNat)
  case atStart => exact ⟨u, [], by omega, by simp, rfl, rfl⟩
  case round =>
    obtain ⟨q, l, hq, hl, rfl, rfl⟩ := hrel
    by_cases hq0 : q = 0
    · subst hq0
      have HE : Hid (str l = str (Lib.itoa u)) := Lib.hid (by rw [HR.out, ← dd_pos u (by omega), ← hl]; simp [dd])
      clear hl
      go_wp2_with fail
      go_ret
      exact ⟨congrArg (fun x => Ending.returned (.string x)) HE.out, rfl⟩
    · have HQ := Lib.hid (dd_cons q u l hq0 hl)
      have HD := Lib.hid (dig_at (q % 10) (by omega))
      have hlen : (str l).size ≤ 19 := by
        rw [strlen]
        have h1 := HL.out
        rw [← dd_pos u (by omega), ← hl, List.length_append] at h1
        omega
      have hqz : ((q : Int) == 0) = false := by rw [beq_eq_false_iff_ne]; omega
      clear hl
      go_wp2_with fail
      go_round
      case rel => refine ⟨q / 10, UInt8.ofNat (48 + q % 10) :: l, by omega, HQ.out, by go_num, ?_⟩; rw [HD.out, str_cons]
      case measure => simp [intOf]; omega

theorem neg_tdiv (q : Nat) : Int.tdiv (-(q : Int)) 10 = -((q / 10 : Nat) : Int) := by
  rw [Int.neg_tdiv]; rfl
theorem neg_tmod (q : Nat) : Int.tmod (-(q : Int)) 10 = -((q % 10 : Nat) : Int) := by
  rw [Int.neg_tmod]; rfl
set_option maxHeartbeats 1000000 in
theorem specDecText_neg (u : Nat) (w : World) (h0 : 0 < u) (hu : u ≤ 9223372036854775808) :
    Calls Tryd.prog 9 #[.int .i64 (-(u : Int))] w fun e w' => e = .returned (.string (str (Lib.itoa (-(u : Int))))) ∧ w = w' := by
  have HR := Lib.hid (itoa_neg u h0)
  have HL := Lib.hid (dec_len u (by omega))
  have hz : (-(u : Int) == 0) = false := by rw [beq_eq_false_iff_ne]; omega
  have hneg : decide (-(u : Int) < 0) = true := decide_eq_true (by omega)
  go_enter Tryd.func9, Tryd.ntmps9
  go_wp2_with fail
  go_loop [3, 4, 5] (fun o m _ => ∃ (q : Nat) (l : List UInt8), q ≤ u ∧ dd q ++ l = dd u ∧ m = .int .i64 (-(q : Int)) ∧ o = .string (str l)) (fun _ m _ => (intOf m).natAbs)
  case atStart => exact ⟨u, [], by omega, by simp, rfl, rfl⟩
  case round =>
    obtain ⟨q, l, hq, hl, rfl, rfl⟩ := hrel
    have hlen : (str l).size ≤ 19 := by
      rw [strlen]
      have h1 := HL.out
      rw [← dd_pos u (by omega), ← hl, List.length_append] at h1
      omega
    by_cases hq0 : q = 0
    · subst hq0
      have HE : Hid (str [45] ++ str l = str (Lib.itoa (-(u : Int)))) := Lib.hid (by rw [HR.out, str_cons, ← dd_pos u (by omega), ← hl]; simp [dd])
      clear hl
      go_wp2_with fail
      go_ret
      exact ⟨congrArg (fun x => Ending.returned (.string x)) HE.out, rfl⟩
    · have HQ := Lib.hid (dd_cons q u l hq0 hl)
      have HD := Lib.hid (dig_at (q % 10) (by omega))
      have hqz : (-(q : Int) == 0) = false := by rw [beq_eq_false_iff_ne]; omega
      have ht1 := neg_tdiv q
      have ht2 := neg_tmod q
      clear hl
      by_cases hd : q % 10 = 0
      · rw [hd] at ht2
        have hlt : decide (-((0 : Nat) : Int) < 0) = false := rfl
        go_wp2_with fail
        go_round
        case rel => refine ⟨q / 10, UInt8.ofNat (48 + q % 10) :: l, by omega, HQ.out, by go_num, ?_⟩; have hx := HD.out; rw [hd] at hx; rw [hx, hd, str_cons]
        case measure => simp only [intOf]; omega
      · have hlt : decide (-((q % 10 : Nat) : Int) < 0) = true := decide_eq_true (by omega)
        go_wp2_with fail
        go_round
        case rel => refine ⟨q / 10, UInt8.ofNat (48 + q % 10) :: l, by omega, HQ.out, by go_num, ?_⟩; rw [HD.out, str_cons]
        case measure => simp only [intOf]; omega

theorem specDecText (n : Int) (w : World) (h : -9223372036854775808 ≤ n ∧ n ≤ 9223372036854775807) :
    Calls Tryd.prog 9 #[.int .i64 n] w fun e w' => e = .returned (.string (str (Lib.itoa n))) ∧ w = w' := by
  by_cases h0 : n = 0
  · subst h0
    have HE : Hid ((⟨#[48]⟩ : ByteArray) = str (Lib.itoa 0)) := Lib.hid (by decide +kernel)
    go_enter Tryd.func9, Tryd.ntmps9
    go_wp2_with fail
    go_ret
    exact ⟨congrArg (fun x => Ending.returned (.string x)) HE.out, rfl⟩
  · by_cases hn : n < 0
    · obtain ⟨u, rfl⟩ : ∃ u : Nat, n = -(u : Int) := ⟨n.natAbs, by omega⟩
      exact specDecText_neg u w (by omega) (by omega)
    · obtain ⟨u, rfl⟩ := Int.eq_ofNat_of_zero_le (show 0 ≤ n by omega)
      exact specDecText_pos u w (by omega) (by omega)
end Go.Proofs.YtbflkcldjjpioaaDoor

/-
  ReadDec of the reference.
-/
namespace Go.Proofs.YtbflkcldjjpioaaDoor
open Go.RowKit
set_option linter.unusedVariables false

theorem i64r (n : Int) : -9223372036854775808 ≤ wrap64 n ∧ wrap64 n ≤ 9223372036854775807 := by rw [wrap64_eq]; omega
/-- A text that no number of 64 bits is written as. -/
def NoDec (s : ByteArray) : Prop := ∀ v : Int, -9223372036854775808 ≤ v ∧ v ≤ 9223372036854775807 → str (Lib.itoa v) ≠ s
theorem ba_list (x y : ByteArray) : (x.toList == y.toList) = decide (x = y) := by
  rw [Bool.eq_iff_iff, decide_eq_true_iff, beq_iff_eq, ByteArray.toList_eq, ByteArray.toList_eq]
  constructor
  · intro h
    apply ByteArray.ext
    exact Array.toList_inj.1 h
  · intro h; rw [h]
theorem ne_of_size {x y : ByteArray} (h : x.size ≠ y.size) : (x.toList == y.toList) = false := by
  rw [ba_list]; exact decide_eq_false (fun e => h (by rw [e]))
theorem wz (D b : Nat) (hb : 48 ≤ b) : wrap64 (wrap64 (10 * (D : Int) + b) - 48) = wrap64 ((10 * D + (b - 48) : Nat) : Int) := by
  rw [show ((10 * D + (b - 48) : Nat) : Int) = 10 * (D : Int) + b - 48 by omega]
  generalize 10 * (D : Int) + b = x
  simp only [wrap64_eq]
  omega
theorem tup2b {a a' : Int} {b b' : Bool} (h1 : a = a') (h2 : b = b') : Ending.returned (.tuple #[.int .i64 a, .bool b]) = Ending.returned (.tuple #[.int .i64 a', .bool b']) := by rw [h1, h2]
theorem str_at (l : List UInt8) (j : Nat) (h : j < (str l).size) : (str l)[j] = l[j]'(by rw [strlen] at h; exact h) := rfl
theorem dval_take (l : List UInt8) (j : Nat) (h : j < (str l).size) : dval (l.take (j + 1)) = 10 * dval (l.take j) + ((str l)[j].toNat - 48) := by
  have hl : j < l.length := by rw [strlen] at h; exact h
  rw [List.take_succ_eq_append_getElem hl, dval_snoc, str_at]
theorem dval_mono (l : List UInt8) (j : Nat) (h : j < (str l).size) : 10 * dval (l.take j) ≤ dval l := by
  have hl : j < l.length := by rw [strlen] at h; exact h
  have hm : ∀ (r : List UInt8) (a : Nat), a ≤ r.foldl (fun n b => 10 * n + (b.toNat - 48)) a := by
    intro r
    induction r with
    | nil => intro a; exact Nat.le_refl _
    | cons x r ih2 => intro a; rw [List.foldl_cons]; exact Nat.le_trans (by omega) (ih2 _)
  have e : l = l.take j ++ (l[j] :: l.drop (j + 1)) := by rw [← List.drop_eq_getElem_cons hl, List.take_append_drop]
  conv => rhs; rw [e]
  unfold dval
  rw [List.foldl_append, List.foldl_cons]
  exact Nat.le_trans (by omega) (hm _ _)

set_option maxHeartbeats 2000000 in
theorem specReadDec_noE (s : ByteArray) (w : World) (hs : s.size ≤ 1048576) (hno : NoDec s) (h0 : s.size = 0) :
    Calls Tryd.prog 11 #[.string s] w fun e w' => e = .returned (.tuple #[.int .i64 0, .bool false]) ∧ w = w' := by
  have HN := Lib.hid hno
  clear hno
  go_enter Tryd.func11, Tryd.ntmps11
  go_wp2_with fail
  go_loop [5, 6] (fun n k => ∃ (j : Nat) (z : Int), j ≤ s.size ∧ k = .int .i64 j ∧ n = .int .i64 z ∧ -9223372036854775808 ≤ z ∧ z ≤ 9223372036854775807) (fun _ k => s.size - (intOf k).toNat)
  case atStart => exact ⟨0, 0, by omega, rfl, rfl, by omega, by omega⟩
  case round =>
    obtain ⟨j, z, hj, rfl, rfl, hz1, hz2⟩ := hrel
    by_cases hlt : j < s.size
    · exact absurd hlt (by omega)
    · obtain rfl : j = s.size := by omega
      have hrng : -9223372036854775808 ≤ z ∧ z ≤ 9223372036854775807 := ⟨hz1, hz2⟩
      have ht : ((str (Lib.itoa z)).toList == s.toList) = false := by rw [ba_list]; exact decide_eq_false (HN.out _ hrng)
      go_wp2_with fail
      all_goals first
        | (go_ret2; exact ⟨rfl, rfl⟩)
        | (refine (specDecText _ _ hrng).mono ?_
           rintro e w1 ⟨rfl, rfl⟩
           go_wp2_with fail
           go_ret2
           exact ⟨rfl, rfl⟩)

set_option maxHeartbeats 2000000 in
theorem specReadDec_noP (s : ByteArray) (w : World) (hs : s.size ≤ 1048576) (hno : NoDec s) (h0 : 0 < s.size) (h45 : ¬ s[0].toNat = 45) :
    Calls Tryd.prog 11 #[.string s] w fun e w' => e = .returned (.tuple #[.int .i64 0, .bool false]) ∧ w = w' := by
  have HN := Lib.hid hno
  clear hno
  have h45b : ((s[0].toNat : Int) == 45) = false := by rw [beq_eq_false_iff_ne]; omega
  go_enter Tryd.func11, Tryd.ntmps11
  go_wp2_with fail
  go_loop [5, 6] (fun n k => ∃ (j : Nat) (z : Int), j ≤ s.size ∧ k = .int .i64 j ∧ n = .int .i64 z ∧ -9223372036854775808 ≤ z ∧ z ≤ 9223372036854775807) (fun _ k => s.size - (intOf k).toNat)
  case atStart => exact ⟨0, 0, by omega, rfl, rfl, by omega, by omega⟩
  case round =>
    obtain ⟨j, z, hj, rfl, rfl, hz1, hz2⟩ := hrel
    by_cases hlt : j < s.size
    · have hu : s[j].toNat < 256 := UInt8.toNat_lt _
      by_cases hd : 48 ≤ s[j].toNat ∧ s[j].toNat ≤ 57
      · have hd1 : decide ((48 : Int) ≤ s[j].toNat) = true := decide_eq_true (by omega)
        have hd2 : decide ((s[j].toNat : Int) ≤ 57) = true := decide_eq_true (by omega)
        by_cases hl : s.size ≤ 19
        · go_wp2_with (go_at_call 27; go_in)
          go_round
          case rel => exact ⟨j + 1, _, by omega, by go_num, rfl, (i64r _).1, (i64r _).2⟩
          case measure => simp [intOf]; omega
        · go_wp2_with (go_at_call 27; go_in)
          go_ret2
          exact ⟨rfl, rfl⟩
      · rcases (show decide ((48 : Int) ≤ s[j].toNat) = false ∨ (decide ((48 : Int) ≤ s[j].toNat) = true ∧ decide ((s[j].toNat : Int) ≤ 57) = false) by simp; omega) with hc | hc
        all_goals
          clear hd
          go_wp2_with (go_at_call 27; go_in)
          go_ret2
          exact ⟨rfl, rfl⟩
    · obtain rfl : j = s.size := by omega
      have hrng : -9223372036854775808 ≤ z ∧ z ≤ 9223372036854775807 := ⟨hz1, hz2⟩
      have ht : ((str (Lib.itoa z)).toList == s.toList) = false := by rw [ba_list]; exact decide_eq_false (HN.out _ hrng)
      go_wp2_with fail
      all_goals first
        | (go_ret2; exact ⟨rfl, rfl⟩)
        | (refine (specDecText _ _ hrng).mono ?_
           rintro e w1 ⟨rfl, rfl⟩
           go_wp2_with fail
           go_ret2
           exact ⟨rfl, rfl⟩)

set_option maxHeartbeats 2000000 in
theorem specReadDec_noM (s : ByteArray) (w : World) (hs : s.size ≤ 1048576) (hno : NoDec s) (h0 : 0 < s.size) (h45 : s[0].toNat = 45) :
    Calls Tryd.prog 11 #[.string s] w fun e w' => e = .returned (.tuple #[.int .i64 0, .bool false]) ∧ w = w' := by
  have HN := Lib.hid hno
  clear hno
  have h45b : ((s[0].toNat : Int) == 45) = true := by rw [beq_iff_eq]; omega
  have htz : (s.extract 1 s.size).size = s.size - 1 := by rw [ByteArray.size_extract]; omega
  go_enter Tryd.func11, Tryd.ntmps11
  go_wp2_with fail
  generalize hT : s.extract 1 s.size = t at *
  have hts : (t.toList == s.toList) = false := ne_of_size (by omega)
  go_loop [5, 6] (fun n k => ∃ (j : Nat) (z : Int), j ≤ t.size ∧ k = .int .i64 j ∧ n = .int .i64 z ∧ -9223372036854775808 ≤ z ∧ z ≤ 9223372036854775807) (fun _ k => t.size - (intOf k).toNat)
  case atStart => exact ⟨0, 0, by omega, rfl, rfl, by omega, by omega⟩
  case round =>
    obtain ⟨j, z, hj, rfl, rfl, hz1, hz2⟩ := hrel
    by_cases hlt : j < t.size
    · have hu : t[j].toNat < 256 := UInt8.toNat_lt _
      by_cases hd : 48 ≤ t[j].toNat ∧ t[j].toNat ≤ 57
      · have hd1 : decide ((48 : Int) ≤ t[j].toNat) = true := decide_eq_true (by omega)
        have hd2 : decide ((t[j].toNat : Int) ≤ 57) = true := decide_eq_true (by omega)
        by_cases hl : t.size ≤ 19
        · go_wp2_with (go_at_call 27; go_in)
          go_round
          case rel => exact ⟨j + 1, _, by omega, by go_num, rfl, (i64r _).1, (i64r _).2⟩
          case measure => simp [intOf]; omega
        · go_wp2_with (go_at_call 27; go_in)
          go_ret2
          exact ⟨rfl, rfl⟩
      · rcases (show decide ((48 : Int) ≤ t[j].toNat) = false ∨ (decide ((48 : Int) ≤ t[j].toNat) = true ∧ decide ((t[j].toNat : Int) ≤ 57) = false) by simp; omega) with hc | hc
        all_goals
          clear hd
          go_wp2_with (go_at_call 27; go_in)
          go_ret2
          exact ⟨rfl, rfl⟩
    · obtain rfl : j = t.size := by omega
      have hrng : -9223372036854775808 ≤ (wrap64 (-z)) ∧ (wrap64 (-z)) ≤ 9223372036854775807 := i64r _
      have ht : ((str (Lib.itoa (wrap64 (-z)))).toList == s.toList) = false := by rw [ba_list]; exact decide_eq_false (HN.out _ hrng)
      go_wp2_with fail
      all_goals first
        | (go_ret2; exact ⟨rfl, rfl⟩)
        | (refine (specDecText _ _ hrng).mono ?_
           rintro e w1 ⟨rfl, rfl⟩
           go_wp2_with fail
           go_ret2
           exact ⟨rfl, rfl⟩)

set_option maxHeartbeats 2000000 in
theorem specReadDec_yesP (u : Nat) (w : World) (hu : u < 9223372036854775808) :
    Calls Tryd.prog 11 #[.string (str (Lib.itoa (u : Int)))] w fun e w' => e = .returned (.tuple #[.int .i64 (u : Int), .bool true]) ∧ w = w' := by
  have HV := Lib.hid (dval_dec u)
  have hlen := dec_len u (by omega)
  have hne := dec_ne u
  have HD := Lib.hid (dec_digit u)
  have HI : Hid (Lib.itoa (u : Int) = Lib.decDigits u) := Lib.hid (itoa_pos u)
  have HT : Hid (((str (Lib.itoa (u : Int))).toList == (str (Lib.itoa (u : Int))).toList) = true) := Lib.hid (by simp)
  rw [HI.out] at HT ⊢
  generalize Lib.decDigits u = l at *
  have hpos : 0 < l.length := List.length_pos_iff.2 hne
  clear hne
  have hs : (str l).size = l.length := strlen l
  have h45 : ¬ ((str l)[0]'(by omega)).toNat = 45 := by
    rw [str_at]
    have := HD.out l[0] (List.getElem_mem _)
    omega
  have h45b : ((((str l)[0]'(by omega)).toNat : Int) == 45) = false := by rw [beq_eq_false_iff_ne]; omega
  have hts : ((str l).toList == (str l).toList) = true := by simp
  have hte : ((str l).toList == (⟨#[]⟩ : ByteArray).toList) = false := ne_of_size (by rw [hs]; show _ ≠ 0; omega)
  have hte2 : ((str l).toList = []) = False := by rw [ByteArray.toList_eq]; simp [str]; intro h; rw [h] at hpos; simp at hpos
  have hte3 : (str l).toList.isEmpty = false := by rw [List.isEmpty_eq_false_iff]; intro h; exact hte2.mp h
  have HB : Hid (∀ (j : Nat) (h : j < (str l).size), 48 ≤ (str l)[j].toNat ∧ (str l)[j].toNat ≤ 57) := Lib.hid (fun j h => by rw [str_at]; exact HD.out _ (List.getElem_mem _))
  have HK : Hid (∀ (j : Nat) (h : j < (str l).size), dval (l.take (j + 1)) = 10 * dval (l.take j) + ((str l)[j].toNat - 48)) := Lib.hid (dval_take l)
  have HM : Hid (∀ (j : Nat) (h : j < (str l).size), 10 * dval (l.take j) ≤ u) := Lib.hid (fun j h => by rw [← HV.out]; exact dval_mono l j h)
  have HZ : Hid (dval (l.take (str l).size) = u) := Lib.hid (by rw [strlen, List.take_length]; exact HV.out)
  go_enter Tryd.func11, Tryd.ntmps11
  go_wp2_with fail
  go_loop [5, 6] (fun n k => ∃ (j : Nat), j ≤ (str l).size ∧ k = .int .i64 j ∧ n = .int .i64 (wrap64 (dval (l.take j) : Nat))) (fun _ k => (str l).size - (intOf k).toNat)
  case atStart => exact ⟨0, by omega, rfl, by show Value.int .i64 0 = .int .i64 (wrap64 0); rw [wrap64_eq]; rfl⟩
  case round =>
    obtain ⟨j, hj, rfl, rfl⟩ := hrel
    by_cases hlt : j < (str l).size
    · have hu2 : (str l)[j].toNat < 256 := UInt8.toNat_lt _
      have hd := HB.out j hlt
      have hd1 : decide ((48 : Int) ≤ (str l)[j].toNat) = true := decide_eq_true (by omega)
      have hd2 : decide (((str l)[j].toNat : Int) ≤ 57) = true := decide_eq_true (by omega)
      have hM := HM.out j hlt
      have HKj := Lib.hid (HK.out j hlt)
      generalize dval (l.take j) = D at *
      rw [show wrap64 (D : Int) = D by rw [wrap64_eq]; omega]
      go_wp2_with (go_at_call 27; go_in)
      go_round
      case rel => exact ⟨j + 1, by omega, by go_num, by rw [HKj.out]; exact congrArg (Value.int .i64) (wz D _ hd.1)⟩
      case measure => simp [intOf]; omega
    · obtain rfl : j = (str l).size := by omega
      rw [HZ.out]
      have hwz : wrap64 (u : Int) = (u : Int) := by simp only [wrap64_eq]; omega
      rw [hwz]
      have hx : ((str (Lib.itoa (u : Int))).toList == (str (l)).toList) = true := by rw [HI.out]; exact HT.out
      go_wp2_with fail
      refine (specDecText _ _ (by omega)).mono ?_
      rintro e w1 ⟨rfl, rfl⟩
      go_wp2_with fail
      all_goals go_ret2
      all_goals first
        | exact ⟨rfl, rfl⟩
        | (have hq : (!(str (Lib.itoa (u : Int))).toList == (str (l)).toList) = true := by assumption
           rw [hx] at hq; cases hq)

set_option maxHeartbeats 2000000 in
theorem specReadDec_yesM (u : Nat) (w : World) (h0 : 0 < u) (hu : u ≤ 9223372036854775808) :
    Calls Tryd.prog 11 #[.string (str (Lib.itoa (-(u : Int))))] w fun e w' => e = .returned (.tuple #[.int .i64 (-(u : Int)), .bool true]) ∧ w = w' := by
  have HV := Lib.hid (dval_dec u)
  have hlen := dec_len u (by omega)
  have hne := dec_ne u
  have HD := Lib.hid (dec_digit u)
  have HI : Hid (Lib.itoa (-(u : Int)) = 45 :: Lib.decDigits u) := Lib.hid (itoa_neg u h0)
  have HT : Hid (((str (Lib.itoa (-(u : Int)))).toList == (str (Lib.itoa (-(u : Int)))).toList) = true) := Lib.hid (by simp)
  rw [HI.out] at HT ⊢
  generalize Lib.decDigits u = l at *
  have hpos : 0 < l.length := List.length_pos_iff.2 hne
  clear hne
  have HE : Hid ((str (45 :: l)).extract 1 (l.length + 1) = str l) := Lib.hid (by
    apply ByteArray.ext
    simp [str])
  have hs : (str (45 :: l)).size = l.length + 1 := by rw [strlen]; rfl
  have h45 : ((str (45 :: l))[0]'(by omega)).toNat = 45 := by rw [str_at]; rfl
  have h45b : ((((str (45 :: l))[0]'(by omega)).toNat : Int) == 45) = true := by rw [beq_iff_eq]; omega
  have hs2 : (str l).size = l.length := strlen l
  have hts : ((str l).toList == (str (45 :: l)).toList) = false := ne_of_size (by omega)
  have hte : ((str l).toList == (⟨#[]⟩ : ByteArray).toList) = false := ne_of_size (by rw [hs2]; show _ ≠ 0; omega)
  have hte2 : ((str l).toList = []) = False := by rw [ByteArray.toList_eq]; simp [str]; intro h; rw [h] at hpos; simp at hpos
  have hte3 : (str l).toList.isEmpty = false := by rw [List.isEmpty_eq_false_iff]; intro h; exact hte2.mp h
  have HB : Hid (∀ (j : Nat) (h : j < (str l).size), 48 ≤ (str l)[j].toNat ∧ (str l)[j].toNat ≤ 57) := Lib.hid (fun j h => by rw [str_at]; exact HD.out _ (List.getElem_mem _))
  have HK : Hid (∀ (j : Nat) (h : j < (str l).size), dval (l.take (j + 1)) = 10 * dval (l.take j) + ((str l)[j].toNat - 48)) := Lib.hid (dval_take l)
  have HM : Hid (∀ (j : Nat) (h : j < (str l).size), 10 * dval (l.take j) ≤ u) := Lib.hid (fun j h => by rw [← HV.out]; exact dval_mono l j h)
  have HZ : Hid (dval (l.take (str l).size) = u) := Lib.hid (by rw [strlen, List.take_length]; exact HV.out)
  go_enter Tryd.func11, Tryd.ntmps11
  go_wp2_with fail
  rw [HE.out]
  go_loop [5, 6] (fun n k => ∃ (j : Nat), j ≤ (str l).size ∧ k = .int .i64 j ∧ n = .int .i64 (wrap64 (dval (l.take j) : Nat))) (fun _ k => (str l).size - (intOf k).toNat)
  case atStart => exact ⟨0, by omega, rfl, by show Value.int .i64 0 = .int .i64 (wrap64 0); rw [wrap64_eq]; rfl⟩
  case round =>
    obtain ⟨j, hj, rfl, rfl⟩ := hrel
    by_cases hlt : j < (str l).size
    · have hu2 : (str l)[j].toNat < 256 := UInt8.toNat_lt _
      have hd := HB.out j hlt
      have hd1 : decide ((48 : Int) ≤ (str l)[j].toNat) = true := decide_eq_true (by omega)
      have hd2 : decide (((str l)[j].toNat : Int) ≤ 57) = true := decide_eq_true (by omega)
      have hM := HM.out j hlt
      have HKj := Lib.hid (HK.out j hlt)
      generalize dval (l.take j) = D at *
      rw [show wrap64 (D : Int) = D by rw [wrap64_eq]; omega]
      go_wp2_with (go_at_call 27; go_in)
      go_round
      case rel => exact ⟨j + 1, by omega, by go_num, by rw [HKj.out]; exact congrArg (Value.int .i64) (wz D _ hd.1)⟩
      case measure => simp [intOf]; omega
    · obtain rfl : j = (str l).size := by omega
      rw [HZ.out]
      have hwz : wrap64 (-(wrap64 (u : Int))) = -(u : Int) := by simp only [wrap64_eq]; omega
      have hx : ((str (Lib.itoa (-(u : Int)))).toList == (str (45 :: l)).toList) = true := by rw [HI.out]; exact HT.out
      go_wp2_with fail
      refine (specDecText _ _ (by omega)).mono ?_
      rintro e w1 ⟨rfl, rfl⟩
      go_wp2_with fail
      all_goals go_ret2
      all_goals first
        | exact ⟨rfl, rfl⟩
        | (have hq : (!(str (Lib.itoa (-(u : Int)))).toList == (str (45 :: l)).toList) = true := by assumption
           rw [hx] at hq; cases hq)
end Go.Proofs.YtbflkcldjjpioaaDoor

/-
  ReadNum, plainly: where a number's parts end, and what they tell.
-/
namespace Go.Proofs.YtbflkcldjjpioaaDoor
open Go.RowKit
set_option linter.unusedVariables false
set_option linter.unusedSimpArgs false

/-- A digit. -/
def isDig (b : UInt8) : Prop := 48 ≤ b.toNat ∧ b.toNat ≤ 57
instance (b : UInt8) : Decidable (isDig b) := by unfold isDig; infer_instance
/-- The place behind the digits from a place on. -/
def runG (s : ByteArray) : Nat → Nat → Nat
  | 0, i => i
  | f + 1, i => if i < s.size ∧ isDig (s.get! i) then runG s f (i + 1) else i
def runN (s : ByteArray) (i : Nat) : Nat := runG s (s.size - i) i
theorem runN_step {s : ByteArray} {i : Nat} (h : i < s.size) (hd : isDig (s.get! i)) : runN s i = runN s (i + 1) := by
  unfold runN
  rw [show s.size - i = (s.size - (i + 1)) + 1 by omega, runG, if_pos ⟨h, hd⟩]
theorem runN_stop {s : ByteArray} {i : Nat} (h : ¬ (i < s.size ∧ isDig (s.get! i))) : runN s i = i := by
  unfold runN
  cases s.size - i with
  | zero => rfl
  | succ f => rw [runG, if_neg h]
theorem runN_le {s : ByteArray} : ∀ (n i : Nat), s.size - i ≤ n → i ≤ s.size → i ≤ runN s i ∧ runN s i ≤ s.size := by
  intro n
  induction n with
  | zero => intro i h1 h2; rw [runN_stop (by omega)]; omega
  | succ n ih =>
    intro i h1 h2
    by_cases h : i < s.size ∧ isDig (s.get! i)
    · rw [runN_step h.1 h.2]; have := ih (i + 1) (by omega) (by omega); omega
    · rw [runN_stop h]; omega
theorem runN_ge {s : ByteArray} {i : Nat} (h : i ≤ s.size) : i ≤ runN s i ∧ runN s i ≤ s.size := runN_le _ i (Nat.le_refl _) h
theorem runN_dig {s : ByteArray} : ∀ (n i k : Nat), k - i ≤ n → i ≤ k → k < runN s i → isDig (s.get! k) := by
  intro n
  induction n with
  | zero =>
    intro i k h1 h2 h3
    obtain rfl : i = k := by omega
    exact Classical.byContradiction fun hn => by rw [runN_stop (fun h => hn h.2)] at h3; omega
  | succ n ih =>
    intro i k h1 h2 h3
    have hd : i < s.size ∧ isDig (s.get! i) := Classical.byContradiction fun hn => by rw [runN_stop hn] at h3; omega
    by_cases hik : i = k
    · subst hik; exact hd.2
    · rw [runN_step hd.1 hd.2] at h3
      exact ih (i + 1) k (by omega) (by omega) h3
theorem piece_dig {s : ByteArray} {i : Nat} (hi : i ≤ s.size) : ∀ j, i + j ≤ runN s i → ∀ b ∈ piece s i j, isDig b
  | 0, _, b, hb => by simp [piece] at hb
  | j + 1, h, b, hb => by
    have hr := runN_ge hi
    rw [piece_succ s i j (by omega)] at hb
    rcases List.mem_append.1 hb with hb | hb
    · exact piece_dig hi j (by omega) b hb
    · rw [List.mem_singleton] at hb
      rw [hb, get_get! s (i + j) (by omega)]
      exact runN_dig _ i (i + j) (Nat.le_refl _) (by omega) (by omega)

/-- The place behind a point and digits. -/
def fracN (s : ByteArray) (a : Nat) : Nat := if a < s.size ∧ (s.get! a).toNat = 46 ∧ a + 1 < runN s (a + 1) then runN s (a + 1) else a
/-- Where an exponent's digits begin. -/
def expK (s : ByteArray) (b : Nat) : Nat := if b + 1 < s.size ∧ ((s.get! (b + 1)).toNat = 43 ∨ (s.get! (b + 1)).toNat = 45) then b + 2 else b + 1
/-- The place behind an exponent. -/
def expN (s : ByteArray) (b : Nat) : Nat := if b < s.size ∧ ((s.get! b).toNat = 101 ∨ (s.get! b).toNat = 69) ∧ expK s b < runN s (expK s b) then runN s (expK s b) else b
/-- The place behind the whole part. -/
def wholeAt (s : ByteArray) (f : Nat) : Nat := if (s.get! f).toNat = 48 then f + 1 else runN s f
theorem fracN_le {s : ByteArray} {a : Nat} (h : a ≤ s.size) : a ≤ fracN s a ∧ fracN s a ≤ s.size := by
  unfold fracN
  split
  · rename_i h2; have := runN_ge (s := s) (i := a + 1) (by omega); omega
  · omega
theorem expK_le {s : ByteArray} {b : Nat} (h : b < s.size) : b + 1 ≤ expK s b ∧ expK s b ≤ s.size ∧ expK s b ≤ b + 2 := by
  unfold expK; split <;> omega
theorem expN_le {s : ByteArray} {b : Nat} (h : b ≤ s.size) : b ≤ expN s b ∧ expN s b ≤ s.size := by
  unfold expN
  split
  · rename_i h2; have := expK_le h2.1; have := runN_ge (s := s) (i := expK s b) (by omega); omega
  · omega
theorem wholeAt_le {s : ByteArray} {f : Nat} (h : f ≤ s.size) (h2 : runN s f ≠ f) : f + 1 ≤ wholeAt s f ∧ wholeAt s f ≤ runN s f ∧ wholeAt s f ≤ s.size := by
  have := runN_ge h
  unfold wholeAt
  split <;> omega

/-- Digits without the noughts ahead. -/
def dropZ (l : List UInt8) : List UInt8 := l.dropWhile (· == 48)
theorem dropZ_head {l r : List UInt8} {a : UInt8} (h : dropZ l = a :: r) : a ≠ 48 := dropW_head h
theorem dropZ_mem {l : List UInt8} {b : UInt8} (h : b ∈ dropZ l) : b ∈ l := (List.dropWhile_sublist _).subset h
theorem dropZ_len (l : List UInt8) : (dropZ l).length ≤ l.length := (List.dropWhile_sublist _).length_le
theorem cutZ_mem {l : List UInt8} {b : UInt8} (h : b ∈ cutZ l) : b ∈ l := by
  rw [cutZ_split l]
  exact List.mem_append_left _ h
/-- A fold of the exponent's digits that stops at 10000. -/
def capF (n : Nat) (b : UInt8) : Nat := if isDig b ∧ n < 10000 then 10 * n + (b.toNat - 48) else n
theorem capF_lt {n : Nat} {b : UInt8} (h : n < 100000) : capF n b < 100000 := by
  unfold capF
  split
  · rename_i h2; have := h2.1; unfold isDig at this; omega
  · exact h
theorem cap_lt : ∀ (l : List UInt8) (n : Nat), n < 100000 → l.foldl capF n < 100000
  | [], n, h => h
  | b :: l, n, h => cap_lt l _ (capF_lt h)
theorem cap_stay : ∀ (l : List UInt8) (n : Nat), 10000 ≤ n → l.foldl capF n = n
  | [], n, h => rfl
  | b :: l, n, h => by
    rw [List.foldl_cons]
    have : capF n b = n := by unfold capF; rw [if_neg (by omega)]
    rw [this]
    exact cap_stay l n h
theorem cap_small : ∀ (l : List UInt8) (n j : Nat), (∀ b ∈ l, isDig b) → n < 10 ^ j → j + l.length ≤ 5 → l.foldl capF n = l.foldl (fun n b => 10 * n + (b.toNat - 48)) n ∧ l.foldl capF n < 10 ^ (j + l.length)
  | [], n, j, _, h, _ => ⟨rfl, h⟩
  | b :: l, n, j, hd, h, hj => by
    simp only [List.length_cons] at hj
    have hb := hd b (by simp)
    have h4 : 10 ^ j ≤ 10 ^ 4 := Nat.pow_le_pow_right (by omega) (by omega)
    have e : capF n b = 10 * n + (b.toNat - 48) := by unfold capF; rw [if_pos ⟨hb, by omega⟩]
    have h5 : 10 * n + (b.toNat - 48) < 10 ^ (j + 1) := by rw [Nat.pow_succ]; unfold isDig at hb; omega
    have ih := cap_small l _ (j + 1) (fun x hx => hd x (by simp [hx])) h5 (by omega)
    rw [List.foldl_cons, List.foldl_cons, e, List.length_cons, show j + (l.length + 1) = j + 1 + l.length by omega]
    exact ih
theorem cap_big : ∀ (l : List UInt8) (n j : Nat), (∀ b ∈ l, isDig b) → 10 ^ j ≤ n → 4 ≤ j + l.length → 10000 ≤ l.foldl capF n
  | [], n, j, _, h, hj => by
    have : 10 ^ 4 ≤ 10 ^ j := Nat.pow_le_pow_right (by omega) (by simpa using hj)
    simp only [List.foldl_nil]; omega
  | b :: l, n, j, hd, h, hj => by
    by_cases hn : 10000 ≤ n
    · rw [cap_stay _ _ hn]; exact hn
    · have hb := hd b (by simp)
      have e : capF n b = 10 * n + (b.toNat - 48) := by unfold capF; rw [if_pos ⟨hb, by omega⟩]
      rw [List.foldl_cons, e]
      exact cap_big l _ (j + 1) (fun x hx => hd x (by simp [hx])) (by rw [Nat.pow_succ]; omega) (by simp only [List.length_cons] at hj; omega)
theorem cap_dropZ : ∀ l : List UInt8, l.foldl capF 0 = (dropZ l).foldl capF 0
  | [] => rfl
  | b :: l => by
    unfold dropZ
    by_cases hb : b = 48
    · subst hb
      rw [List.dropWhile_cons_of_pos (by rfl), List.foldl_cons]
      exact cap_dropZ l
    · rw [List.dropWhile_cons_of_neg (by simpa using hb)]
/-- What the reference reads of an exponent. -/
def powS (l : List UInt8) : Int := (if (45 : UInt8) ∈ l then -1 else 1) * ((l.foldl capF 0 : Nat) : Int)
/-- What an exponent looks like: its letter, a sign or none, digits. -/
def ExpOf (l : List UInt8) (x : UInt8) (sg DD : List UInt8) : Prop := l = x :: (sg ++ DD) ∧ (x.toNat = 101 ∨ x.toNat = 69) ∧ (sg = [] ∨ sg = [43] ∨ sg = [45]) ∧ DD ≠ [] ∧ ∀ b ∈ DD, isDig b
/-- What the program reads of an exponent's digits. -/
def magI (DD : List UInt8) : Nat := if (dropZ DD).length < 6 then dval (dropZ DD) else 100000
def expI (sg DD : List UInt8) : Int := if sg = [45] then -(magI DD : Int) else (magI DD : Int)
theorem magI_le (DD : List UInt8) (hd : ∀ b ∈ DD, isDig b) : magI DD ≤ 100000 := by
  unfold magI
  split
  · rename_i h
    have := cap_small (dropZ DD) 0 0 (fun b hb => hd b (dropZ_mem hb)) (by omega) (by omega)
    have h2 : 10 ^ (0 + (dropZ DD).length) ≤ 10 ^ 5 := Nat.pow_le_pow_right (by omega) (by omega)
    unfold dval
    rw [← this.1]
    omega
  · omega
theorem capF_not {n : Nat} {b : UInt8} (h : ¬ isDig b) : capF n b = n := by unfold capF; rw [if_neg (fun h2 => h h2.1)]
theorem powS_of {l sg DD : List UInt8} {x : UInt8} (h : ExpOf l x sg DD) : powS l = (if sg = [45] then -1 else 1) * ((DD.foldl capF 0 : Nat) : Int) := by
  obtain ⟨rfl, hx, hs, hne, hd⟩ := h
  have hxd : ¬ isDig x := by unfold isDig; omega
  have hx45 : x ≠ 45 := by rintro rfl; revert hx; decide
  have hd45 : (45 : UInt8) ∉ DD := fun h => by have := hd _ h; revert this; decide
  have e1 : ((45 : UInt8) ∈ x :: (sg ++ DD)) ↔ sg = [45] := by
    rcases hs with rfl | rfl | rfl
    · simp [hd45, Ne.symm hx45]
    · simp [hd45, Ne.symm hx45]
    · simp
  have e2 : (x :: (sg ++ DD)).foldl capF 0 = DD.foldl capF 0 := by
    rw [List.foldl_cons, capF_not hxd, List.foldl_append]
    rcases hs with rfl | rfl | rfl
    · rfl
    · rfl
    · rfl
  unfold powS
  rw [e2]
  by_cases hc : sg = [45]
  · rw [if_pos (e1.2 hc), if_pos hc]
  · rw [if_neg (fun h => hc (e1.1 h)), if_neg hc]
/-- Both readings are alike, or both out of all bounds. -/
theorem pow_close {l sg DD : List UInt8} {x : UInt8} (h : ExpOf l x sg DD) : (powS l = expI sg DD ∨ ((powS l ≤ -10000 ∨ 10000 ≤ powS l) ∧ (expI sg DD ≤ -10000 ∨ 10000 ≤ expI sg DD))) ∧ -100000 ≤ powS l ∧ powS l ≤ 100000 ∧ -100000 ≤ expI sg DD ∧ expI sg DD ≤ 100000 := by
  have hm := magI_le DD h.2.2.2.2
  have hc := cap_lt DD 0 (by omega)
  have key : DD.foldl capF 0 = magI DD ∨ (10000 ≤ DD.foldl capF 0 ∧ 10000 ≤ magI DD) := by
    unfold magI
    rw [cap_dropZ]
    have hd : ∀ b ∈ dropZ DD, isDig b := fun b hb => h.2.2.2.2 b (dropZ_mem hb)
    by_cases hl : (dropZ DD).length < 6
    · rw [if_pos hl]
      exact .inl (cap_small (dropZ DD) 0 0 hd (by omega) (by omega)).1
    · rw [if_neg hl]
      right
      refine ⟨?_, by omega⟩
      cases hz : dropZ DD with
      | nil => rw [hz] at hl; simp at hl
      | cons a r =>
        have ha := dropZ_head hz
        rw [hz] at hd hl
        have had := hd a (by simp)
        have : a.toNat ≠ 48 := fun e => ha (UInt8.toNat_inj.1 e)
        have e : capF 0 a = a.toNat - 48 := by unfold capF; rw [if_pos ⟨had, by omega⟩]; omega
        rw [List.foldl_cons, e]
        unfold isDig at had
        simp only [List.length_cons] at hl
        exact cap_big r _ 0 (fun b hb => hd b (by simp [hb])) (by omega) (by omega)
  rw [powS_of h]
  unfold expI
  by_cases hs : sg = [45]
  · rw [if_pos hs, if_pos hs]; omega
  · rw [if_neg hs, if_neg hs]; omega
end Go.Proofs.YtbflkcldjjpioaaDoor

/-
  ReadNum, plainly: what it hands back, by the program's way and by the reference's.
-/
namespace Go.Proofs.YtbflkcldjjpioaaDoor
open Go.RowKit
set_option linter.unusedVariables false
set_option linter.unusedSimpArgs false

open Classical in
/-- The number of which a text is the notation. -/
noncomputable def readZ (t : ByteArray) : Option Int := if h : ∃ v : Int, (-9223372036854775808 ≤ v ∧ v ≤ 9223372036854775807) ∧ str (Lib.itoa v) = t then some h.choose else none
theorem readZ_some {t : ByteArray} {v : Int} (h : readZ t = some v) : (-9223372036854775808 ≤ v ∧ v ≤ 9223372036854775807) ∧ str (Lib.itoa v) = t := by
  unfold readZ at h
  split at h
  · rename_i h2
    injection h with h
    subst h
    exact h2.choose_spec
  · cases h
theorem readZ_none {t : ByteArray} (h : readZ t = none) : NoDec t := by
  unfold readZ at h
  split at h
  · cases h
  · rename_i h2
    exact fun v hv he => h2 ⟨v, hv, he⟩
theorem str_inj {a b : List UInt8} (h : str a = str b) : a = b := by
  unfold str at h
  injection h with h
  injection h
theorem readZ_yes {v : Int} (h : -9223372036854775808 ≤ v ∧ v ≤ 9223372036854775807) : readZ (str (Lib.itoa v)) = some v := by
  have h2 : ∃ v' : Int, (-9223372036854775808 ≤ v' ∧ v' ≤ 9223372036854775807) ∧ str (Lib.itoa v') = str (Lib.itoa v) := ⟨v, h, rfl⟩
  unfold readZ
  rw [dif_pos h2]
  have e := atoi_itoa _ h2.choose_spec.1
  rw [str_inj h2.choose_spec.2, atoi_itoa v h] at e
  injection e with e
  rw [← e]

/-- Where a number's digits begin. -/
def fAt (s : ByteArray) (i : Nat) : Nat := if (s.get! i).toNat = 45 then i + 1 else i
theorem fAt_le {s : ByteArray} {i : Nat} (h : i < s.size) : i ≤ fAt s i ∧ fAt s i ≤ i + 1 ∧ fAt s i ≤ s.size := by unfold fAt; split <;> omega
/-- A number's digits, the point left out. -/
def dgs (s : ByteArray) (f a b : Nat) : List UInt8 := piece s f (a - f) ++ (if a < b then piece s (a + 1) (b - (a + 1)) else [])
/-- Those that count. -/
def numT (D : List UInt8) : List UInt8 := cutZ (dropZ D)
def sgnV (neg : Bool) (n : Nat) : Int := if neg then -(n : Int) else (n : Int)
/-- The number of digits and a power. -/
def numG (neg : Bool) (D : List UInt8) (e : Int) : Option V := if 18 < (numT D).length then none else normR (sgnV neg (dval (numT D))) (e + (((dropZ D).length - (numT D).length : Nat) : Int))
/-- The power ahead of the digits that are cut. -/
def powE (s : ByteArray) (a b d : Nat) : Int := powS (piece s b (d - b)) - ((b - (a + 1) : Nat) : Int)
/-- ReadNum at a place, its parts known. -/
noncomputable def rnO (s : ByteArray) (i f a b d : Nat) : Option V := if 60 < d - i then none else match readZ (s.extract i d) with
  | some n => some (V.int n)
  | none => numG (decide (i < f)) (dgs s f a b) (powE s a b d)
noncomputable def rnP (s : ByteArray) (i : Int) : Option (V × Nat) :=
  if 0 ≤ i ∧ i < s.size ∧ runN s (fAt s i.toNat) ≠ fAt s i.toNat then
    (rnO s i.toNat (fAt s i.toNat) (wholeAt s (fAt s i.toNat)) (fracN s (wholeAt s (fAt s i.toNat))) (expN s (fracN s (wholeAt s (fAt s i.toNat))))).map fun v => (v, expN s (fracN s (wholeAt s (fAt s i.toNat))))
  else none

/-- What the reference keeps of the digits: one at least. -/
def keepL (D : List UInt8) : List UInt8 := if dropZ D = [] then [48] else dropZ D
def keepT (D : List UInt8) : List UInt8 := if dropZ D = [] then [48] else numT D
theorem all48 : ∀ l : List UInt8, (∀ b ∈ l, b = 48) → l = List.replicate l.length 48
  | [], _ => rfl
  | a :: l, h => by
    have h1 := h a (by simp)
    have h2 := all48 l (fun b hb => h b (by simp [hb]))
    subst h1
    rw [List.length_cons, List.replicate_succ, ← h2]
theorem keepL_split {D : List UInt8} (h : D ≠ []) : D = List.replicate (D.length - (keepL D).length) 48 ++ keepL D := by
  unfold keepL
  by_cases hz : dropZ D = []
  · rw [if_pos hz]
    have e := all48 D (dropW_all D hz)
    have hl : 0 < D.length := List.length_pos_iff.2 h
    rw [show ([48] : List UInt8) = List.replicate 1 48 from rfl, List.length_replicate, List.replicate_append_replicate, show D.length - 1 + 1 = D.length by omega]
    exact e
  · rw [if_neg hz]
    exact dropW_split D
theorem keepL_stop (D : List UInt8) : ∃ a r, keepL D = a :: r ∧ (r = [] ∨ a ≠ 48) := by
  unfold keepL
  by_cases hz : dropZ D = []
  · rw [if_pos hz]; exact ⟨48, [], rfl, .inl rfl⟩
  · rw [if_neg hz]
    cases h : dropZ D with
    | nil => exact absurd h hz
    | cons a r => exact ⟨a, r, rfl, .inr (dropZ_head h)⟩
theorem keepT_split (D : List UInt8) : keepL D = keepT D ++ List.replicate ((keepL D).length - (keepT D).length) 48 := by
  unfold keepL keepT
  by_cases hz : dropZ D = []
  · rw [if_pos hz, if_pos hz]; rfl
  · rw [if_neg hz, if_neg hz]; exact cutZ_split _
theorem numT_ne {D : List UInt8} (h : dropZ D ≠ []) : numT D ≠ [] := by
  intro h2
  cases hz : dropZ D with
  | nil => exact h hz
  | cons a r =>
    have := cutZ_nil h2 a (by rw [hz]; simp)
    exact dropZ_head hz this
theorem keepT_stop (D : List UInt8) : ∃ a r, keepT D = r ++ [a] ∧ (r = [] ∨ a ≠ 48) := by
  unfold keepT
  by_cases hz : dropZ D = []
  · rw [if_pos hz]; exact ⟨48, [], rfl, .inl rfl⟩
  · rw [if_neg hz]
    rcases List.eq_nil_or_concat (numT D) with h | ⟨r, a, h⟩
    · exact absurd h (numT_ne hz)
    · rw [List.concat_eq_append] at h
      exact ⟨a, r, h, .inr (cutZ_last h)⟩
theorem keepL_len {D : List UInt8} (h : D ≠ []) : (keepL D).length ≤ D.length := by
  unfold keepL
  have hl : 0 < D.length := List.length_pos_iff.2 h
  split
  · simp; omega
  · exact dropZ_len D
theorem keepT_len (D : List UInt8) : (keepT D).length ≤ (keepL D).length := by
  unfold keepT keepL
  split
  · exact Nat.le_refl _
  · exact cutZ_len _
theorem keepT_dig {D : List UInt8} (h : ∀ b ∈ D, isDig b) : ∀ b ∈ keepT D, isDig b := by
  unfold keepT
  split
  · intro b hb; simp at hb; subst hb; decide
  · exact fun b hb => h b (dropZ_mem (cutZ_mem hb))
/-- The reference's number, where its digits are few. -/
theorem keep_num (neg : Bool) (D : List UInt8) (e : Int) (h : (keepT D).length ≤ 18) : normR (sgnV neg (dval (keepT D))) (e + (((keepL D).length - (keepT D).length : Nat) : Int)) = numG neg D e := by
  unfold numG
  unfold keepT keepL at *
  by_cases hz : dropZ D = []
  · rw [if_pos hz, if_pos hz] at *
    have e0 : numT D = [] := by unfold numT; rw [hz]; rfl
    rw [e0, hz, if_neg (by simp)]
    rfl
  · rw [if_neg hz, if_neg hz] at *
    rw [if_neg (by omega)]
theorem keep_many {D : List UInt8} (h : 18 < (keepT D).length) : 18 < (numT D).length := by
  unfold keepT at h
  split at h
  · simp at h
  · exact h

theorem piece_cons {s : ByteArray} {i m : Nat} (h : i < s.size) : piece s i (m + 1) = s.get! i :: piece s (i + 1) m := by
  unfold piece
  have hl : i < s.data.toList.length := h
  rw [List.drop_eq_getElem_cons hl, List.take_succ_cons]
  congr 1
  rw [← get_get! s i h]
  rfl
theorem mem_piece {s : ByteArray} : ∀ {m i k : Nat}, k < m → i + m ≤ s.size → s.get! (i + k) ∈ piece s i m
  | 0, _, _, h, _ => by omega
  | m + 1, i, 0, _, h => by rw [piece_cons (by omega)]; simp
  | m + 1, i, k + 1, h, h2 => by
    rw [piece_cons (by omega)]
    have := mem_piece (s := s) (m := m) (i := i + 1) (k := k) (by omega) (by omega)
    rw [show i + 1 + k = i + (k + 1) by omega] at this
    exact List.mem_cons_of_mem _ this
theorem itoa_mem {n : Int} {b : UInt8} (h : b ∈ Lib.itoa n) : isDig b ∨ b = 45 := by
  unfold Lib.itoa at h
  split at h
  · rcases List.mem_cons.1 h with rfl | h
    · exact .inr rfl
    · exact .inl (dec_digit _ b h)
  · exact .inl (dec_digit _ b h)
theorem dec_head : ∀ (u : Nat), u ≠ 0 → ∃ a r, Lib.decDigits u = a :: r ∧ a ≠ 48 := by
  intro u
  induction u using Nat.strongRecOn with
  | ind u ih =>
    intro h
    rw [Lib.decDigits]
    split
    · refine ⟨_, [], rfl, fun e => ?_⟩
      have := congrArg UInt8.toNat e
      rw [UInt8.toNat_ofNat'] at this
      simp at this
      omega
    · obtain ⟨a, r, h1, h2⟩ := ih (u / 10) (by omega) (by omega)
      rw [h1]
      exact ⟨a, _, rfl, h2⟩
/-- Where the whole text is a number's own notation there is neither point nor exponent. -/
theorem canon {s : ByteArray} {i : Nat} {n : Int} (hi : i < s.size) (hr : runN s (fAt s i) ≠ fAt s i)
    (h : readZ (s.extract i (expN s (fracN s (wholeAt s (fAt s i))))) = some n) :
    fracN s (wholeAt s (fAt s i)) = wholeAt s (fAt s i) ∧ expN s (fracN s (wholeAt s (fAt s i))) = wholeAt s (fAt s i) ∧ piece s (fAt s i) (wholeAt s (fAt s i) - fAt s i) = Lib.decDigits n.natAbs ∧ (n < 0 ↔ i < fAt s i) := by
  have hf := fAt_le hi
  have ha := wholeAt_le hf.2.2 hr
  have hb := fracN_le ha.2.2
  have hd := expN_le hb.2
  obtain ⟨hn, ht⟩ := readZ_some h
  have hp : piece s i (expN s (fracN s (wholeAt s (fAt s i))) - i) = Lib.itoa n := by
    rw [← extract_piece, show i + (expN s (fracN s (wholeAt s (fAt s i))) - i) = expN s (fracN s (wholeAt s (fAt s i))) by omega, ← ht]
    simp [str]
  have hmem : ∀ k, i ≤ k → k < expN s (fracN s (wholeAt s (fAt s i))) → isDig (s.get! k) ∨ s.get! k = 45 := by
    intro k h1 h2
    have := mem_piece (s := s) (m := expN s (fracN s (wholeAt s (fAt s i))) - i) (i := i) (k := k - i) (by omega) (by omega)
    rw [show i + (k - i) = k by omega, hp] at this
    exact itoa_mem this
  have e1 : fracN s (wholeAt s (fAt s i)) = wholeAt s (fAt s i) := by
    refine Classical.byContradiction fun hne => ?_
    have h46 : (s.get! (wholeAt s (fAt s i))).toNat = 46 := by
      unfold fracN at hne
      split at hne
      · rename_i h3; exact h3.2.1
      · exact absurd rfl hne
    rcases hmem (wholeAt s (fAt s i)) (by omega) (by omega) with h4 | h4
    · unfold isDig at h4; omega
    · rw [h4] at h46; revert h46; decide
  rw [e1] at hd ht hp hmem ⊢
  have e2 : expN s (wholeAt s (fAt s i)) = wholeAt s (fAt s i) := by
    refine Classical.byContradiction fun hne => ?_
    have h46 : (s.get! (wholeAt s (fAt s i))).toNat = 101 ∨ (s.get! (wholeAt s (fAt s i))).toNat = 69 := by
      unfold expN at hne
      split at hne
      · rename_i h3; exact h3.2.1
      · exact absurd rfl hne
    rcases hmem (wholeAt s (fAt s i)) (by omega) (by omega) with h4 | h4
    · unfold isDig at h4; omega
    · rw [h4] at h46; revert h46; decide
  rw [e2] at hd ht hp hmem ⊢
  refine ⟨rfl, rfl, ?_⟩
  obtain ⟨m, hm⟩ : ∃ m, wholeAt s (fAt s i) - i = m + 1 := ⟨wholeAt s (fAt s i) - i - 1, by omega⟩
  rw [hm, piece_cons hi] at hp
  by_cases h0 : n < 0
  · obtain ⟨u, rfl⟩ : ∃ u : Nat, n = -(u : Int) := ⟨n.natAbs, by omega⟩
    rw [itoa_neg u (by omega)] at hp
    injection hp with hp1 hp2
    have hfi : fAt s i = i + 1 := by unfold fAt; rw [hp1]; rfl
    refine ⟨?_, by omega⟩
    rw [hfi] at hm ⊢
    rw [show wholeAt s (i + 1) - (i + 1) = m by omega, hp2, Int.natAbs_neg, Int.natAbs_natCast]
  · obtain ⟨u, rfl⟩ := Int.eq_ofNat_of_zero_le (show 0 ≤ n by omega)
    rw [itoa_pos] at hp
    have hfi : fAt s i = i := by
      have hdg : isDig (s.get! i) := dec_digit u _ (by rw [← hp]; simp)
      unfold fAt
      rw [if_neg (by unfold isDig at hdg; omega)]
    refine ⟨?_, by omega⟩
    rw [hfi] at hm ⊢
    rw [hm, piece_cons hi, hp, Int.natAbs_natCast]
theorem dval_rep (T : List UInt8) : ∀ k : Nat, dval (T ++ List.replicate k 48) = dval T * 10 ^ k
  | 0 => by simp
  | k + 1 => by
    rw [List.replicate_succ', ← List.append_assoc, dval_snoc, dval_rep T k, Nat.pow_succ]
    have : (48 : UInt8).toNat - 48 = 0 := rfl
    rw [this, Nat.add_zero, Nat.mul_comm 10, Nat.mul_assoc]
theorem tmod_snoc {m : Nat} (neg : Bool) (h : m % 10 ≠ 0) : Int.tmod (sgnV neg m) 10 ≠ 0 := by
  unfold sgnV
  split
  · rw [Int.neg_tmod, Int.tmod_eq_emod_of_nonneg (by omega)]; omega
  · rw [Int.tmod_eq_emod_of_nonneg (by omega)]; omega
/-- A number's own digits give the number. -/
theorem keep_canon {n : Int} (hn : -9223372036854775808 ≤ n ∧ n ≤ 9223372036854775807) : normR (sgnV (decide (n < 0)) (dval (keepT (Lib.decDigits n.natAbs)))) ((((keepL (Lib.decDigits n.natAbs)).length - (keepT (Lib.decDigits n.natAbs)).length : Nat) : Int)) = some (V.int n) := by
  by_cases h0 : n = 0
  · subst h0
    have e : Lib.decDigits (Int.natAbs 0) = [48] := by decide +kernel
    rw [e]
    have e1 : keepT [48] = [48] := by decide +kernel
    have e2 : keepL [48] = [48] := by decide +kernel
    rw [e1, e2]
    exact normR_zero (by simp)
  · obtain ⟨a, r, hd, ha⟩ := dec_head n.natAbs (by omega)
    have hz : dropZ (Lib.decDigits n.natAbs) = Lib.decDigits n.natAbs := by
      unfold dropZ
      rw [hd, List.dropWhile_cons_of_neg (by simpa using ha)]
    have hL : keepL (Lib.decDigits n.natAbs) = Lib.decDigits n.natAbs := by
      unfold keepL
      rw [hz, if_neg (dec_ne _)]
    have hT : keepT (Lib.decDigits n.natAbs) = cutZ (Lib.decDigits n.natAbs) := by
      unfold keepT numT
      rw [hz, if_neg (dec_ne _)]
    rw [hL, hT]
    have hsp := cutZ_split (Lib.decDigits n.natAbs)
    have hlen := dec_len n.natAbs (by omega)
    obtain ⟨k, hk⟩ : ∃ k, (Lib.decDigits n.natAbs).length - (cutZ (Lib.decDigits n.natAbs)).length = k := ⟨_, rfl⟩
    rw [hk] at hsp ⊢
    have hv := dval_dec n.natAbs
    rw [hsp, dval_rep] at hv
    rcases List.eq_nil_or_concat (cutZ (Lib.decDigits n.natAbs)) with he | ⟨q, c, he⟩
    · exact absurd he (cutZ_dec (by omega))
    · rw [List.concat_eq_append] at he
      have hc := cutZ_last he
      have hcd : isDig c := dec_digit _ c (cutZ_mem (by rw [he]; simp))
      have hm : dval (cutZ (Lib.decDigits n.natAbs)) % 10 ≠ 0 := by
        rw [he, dval_snoc]
        have : c.toNat ≠ 48 := fun e => hc (UInt8.toNat_inj.1 e)
        unfold isDig at hcd
        omega
      obtain ⟨m, hmm⟩ : ∃ m, dval (cutZ (Lib.decDigits n.natAbs)) = m := ⟨_, rfl⟩
      rw [hmm] at hm hv ⊢
      have hp : 0 < 10 ^ k := Nat.pow_pos (by omega)
      have hmu : m ≤ m * 10 ^ k := Nat.le_mul_of_pos_right m (by omega)
      have hsg : sgnV (decide (n < 0)) m * 10 ^ k = n := by
        have h10 : ((m * 10 ^ k : Nat) : Int) = (m : Int) * 10 ^ k := by push_cast; rfl
        unfold sgnV
        by_cases hneg : n < 0
        · rw [decide_eq_true hneg, if_pos rfl, Int.neg_mul, ← h10, hv]; omega
        · rw [decide_eq_false hneg, if_neg (by simp), ← h10, hv]; omega
      have hr0 : inR (sgnV (decide (n < 0)) m) := by
        unfold sgnV inR
        by_cases hneg : n < 0
        · rw [decide_eq_true hneg, if_pos rfl]; omega
        · rw [decide_eq_false hneg, if_neg (by simp)]; omega
      have hr1 : inR (sgnV (decide (n < 0)) m * 10 ^ k) := by rw [hsg]; unfold inR; omega
      have h1 := normR_of (n := sgnV (decide (n < 0)) m) (e := (k : Int)) (n' := sgnV (decide (n < 0)) m) (k := 0) ⟨by omega, by omega⟩ hr0 (tmod_snoc _ hm) (by simp)
      rw [h1, show (k : Int) + ((0 : Nat) : Int) = (k : Int) by omega, normV_pos_some (by omega) (by rw [Int.toNat_natCast]; exact hr1), Int.toNat_natCast, hsg]
end Go.Proofs.YtbflkcldjjpioaaDoor

/-
  ReadNum, plainly: the reference's way comes to the same.
-/
namespace Go.Proofs.YtbflkcldjjpioaaDoor
open Go.RowKit
set_option linter.unusedVariables false
set_option linter.unusedSimpArgs false

/-- The value and the place that are handed back. -/
def rdV (r : Option (V × Nat)) : V := match r with | some (v, _) => v | none => V.nought
def rdE (r : Option (V × Nat)) : Int := match r with | some (_, n) => (n : Int) | none => -1
theorem rnP_out {s : ByteArray} {i : Int} (h : ¬ (0 ≤ i ∧ i < s.size)) : rnP s i = none := if_neg fun h2 => h ⟨h2.1, h2.2.1⟩
theorem rnP_no {s : ByteArray} {i : Nat} (h : runN s (fAt s i) = fAt s i) : rnP s i = none := if_neg fun h2 => h2.2.2 (by rw [Int.toNat_natCast]; exact h)
theorem rnP_at {s : ByteArray} {i f a b d : Nat} (hi : i < s.size) (hf : fAt s i = f) (hr : runN s f ≠ f) (ha : wholeAt s f = a) (hb : fracN s a = b) (hd : expN s b = d) : rnP s i = (rnO s i f a b d).map fun v => (v, d) := by
  subst hf ha hb hd
  unfold rnP
  rw [if_pos ⟨by omega, by omega, by rw [Int.toNat_natCast]; exact hr⟩]
  simp only [Int.toNat_natCast]
theorem rnO_far {s : ByteArray} {i f a b d : Nat} (h : 60 < d - i) : rnO s i f a b d = none := if_pos h
theorem powS_nil : powS [] = 0 := rfl
theorem piece_zero (s : ByteArray) (i : Nat) : piece s i 0 = [] := rfl
theorem dgs_whole {s : ByteArray} {f a : Nat} : dgs s f a a = piece s f (a - f) := by unfold dgs; rw [if_neg (by omega), List.append_nil]
theorem rnO_few {s : ByteArray} {i f a b d : Nat} (hi : i < s.size) (hf : fAt s i = f) (hr : runN s f ≠ f) (ha : wholeAt s f = a) (hb : fracN s a = b) (hd : expN s b = d) (h60 : ¬ 60 < d - i) (h18 : (keepT (dgs s f a b)).length ≤ 18) :
    rnO s i f a b d = normR (sgnV (decide (i < f)) (dval (keepT (dgs s f a b)))) (-((b - (a + 1) : Nat) : Int) + (((keepL (dgs s f a b)).length - (keepT (dgs s f a b)).length : Nat) : Int) + powS (piece s b (d - b))) := by
  unfold rnO
  rw [if_neg h60]
  cases hz : readZ (s.extract i d) with
  | none =>
    show numG _ _ _ = _
    rw [← keep_num _ _ _ h18]
    congr 1
    unfold powE
    omega
  | some n =>
    subst hf ha hb hd
    obtain ⟨e1, e2, e3, e4⟩ := canon hi hr hz
    obtain ⟨hn, _⟩ := readZ_some hz
    rw [e1] at h18 e2 ⊢
    rw [e2]
    show some (V.int n) = _
    rw [dgs_whole] at h18 ⊢
    rw [e3] at h18 ⊢
    have h := keep_canon hn
    rw [show decide (i < fAt s i) = decide (n < 0) from decide_eq_decide.2 e4.symm]
    rw [← h, Nat.sub_self, piece_zero, powS_nil]
    congr 1
    omega
theorem rnO_many {s : ByteArray} {i f a b d : Nat} (hi : i < s.size) (hf : fAt s i = f) (hr : runN s f ≠ f) (ha : wholeAt s f = a) (hb : fracN s a = b) (hd : expN s b = d) (h60 : ¬ 60 < d - i) (h18 : 18 < (keepT (dgs s f a b)).length) :
    (∃ n, readZ (s.extract i a) = some n ∧ d ≤ a ∧ rnO s i f a b d = some (V.int n)) ∨ ((readZ (s.extract i a) = none ∨ a < d) ∧ rnO s i f a b d = none) := by
  unfold rnO
  rw [if_neg h60]
  cases hz : readZ (s.extract i d) with
  | none =>
    right
    constructor
    · by_cases had : a < d
      · exact .inr had
      · left
        have hfl := fAt_le hi
        have h1 := wholeAt_le (s := s) (f := f) (by omega) hr
        have h2 := fracN_le (s := s) (a := a) (by omega)
        have h3 := expN_le (s := s) (b := b) (by omega)
        have : d = a := by omega
        rw [← this]
        exact hz
    · show numG _ _ _ = _
      unfold numG
      rw [if_pos (keep_many h18)]
  | some n =>
    left
    subst hf ha hb hd
    obtain ⟨e1, e2, e3, e4⟩ := canon hi hr hz
    have e5 : expN s (fracN s (wholeAt s (fAt s i))) = wholeAt s (fAt s i) := e2
    refine ⟨n, by rw [← e5]; exact hz, by omega, rfl⟩
theorem rd_norm {n e : Int} {d : Nat} : rdV ((normR n e).map fun v => (v, d)) = normD n e ∧ rdE ((normR n e).map fun v => (v, d)) = if normB n e then (d : Int) else -1 := by
  unfold rdV rdE normD normB
  cases normR n e with
  | none => exact ⟨rfl, rfl⟩
  | some v => exact ⟨rfl, rfl⟩
theorem sgnV_range {neg : Bool} {m : Nat} (h : m < 10 ^ 18) : inR (sgnV neg m) ∧ -1000000000000000000 ≤ sgnV neg m ∧ sgnV neg m ≤ 1000000000000000000 := by
  unfold sgnV inR
  split <;> omega
theorem dgs_dig {s : ByteArray} {f a b : Nat} (hf : f ≤ s.size) (hr : runN s f ≠ f) (ha : wholeAt s f = a) (hb : fracN s a = b) : ∀ x ∈ dgs s f a b, isDig x := by
  have h1 := wholeAt_le hf hr
  have h2 := fracN_le (s := s) (a := a) (by omega)
  intro x hx
  unfold dgs at hx
  rcases List.mem_append.1 hx with hx | hx
  · exact piece_dig hf _ (by omega) x hx
  · split at hx
    · rename_i hab
      have hfr : a < s.size ∧ (s.get! a).toNat = 46 ∧ a + 1 < runN s (a + 1) := by
        refine Classical.byContradiction fun hn => ?_
        unfold fracN at hb
        rw [if_neg hn] at hb
        omega
      have hbr : b = runN s (a + 1) := by
        rw [← hb]; unfold fracN; rw [if_pos hfr]
      exact piece_dig (s := s) (i := a + 1) (by omega) _ (by omega) x hx
    · cases hx
theorem dgs_len {s : ByteArray} {f a b : Nat} (h1 : f ≤ a) (h2 : a ≤ s.size) (h3 : b ≤ s.size) : (dgs s f a b).length = (a - f) + (b - (a + 1)) := by
  unfold dgs
  rw [List.length_append, piece_len _ _ _ (by omega)]
  split
  · rw [piece_len _ _ _ (by omega)]
  · simp; omega
end Go.Proofs.YtbflkcldjjpioaaDoor

/-
  The reference's runs of digits, and where a number's parts end.
-/
namespace Go.Proofs.YtbflkcldjjpioaaDoor
open Go.RowKit
set_option linter.unusedVariables false
set_option linter.unusedSimpArgs false
set_option maxRecDepth 100000

theorem dig_cases (c : Nat) : (48 ≤ c ∧ c ≤ 57) ∨ c < 48 ∨ 57 < c := by omega
theorem ge_idx {s : ByteArray} {j : Nat} (h : j < s.size) : s.get! j = s[j] := (get_get! s j h).symm
set_option maxHeartbeats 2000000 in
theorem specRun (s : ByteArray) (i : Nat) (w : World) (hs : s.size ≤ 1048576) (hi : i ≤ s.size) :
    Calls Tryd.prog 69 #[.string s, .int .i64 i] w fun e w' => e = .returned (.int .i64 (runN s i)) ∧ w' = w := by
  go_enter Tryd.func69, Tryd.ntmps69
  go_wp2_with fail
  go_loop [1] (fun k => ∃ j : Nat, j ≤ s.size ∧ k = .int .i64 j ∧ runN s j = runN s i) (fun k => s.size - (intOf k).toNat)
  case atStart => exact ⟨i, hi, rfl, rfl⟩
  case round =>
    obtain ⟨j, hj, rfl, hr⟩ := hrel
    have HR := Lib.hid hr
    clear hr
    by_cases hlt : j < s.size
    · have hu : s[j].toNat < 256 := UInt8.toNat_lt _
      rcases dig_cases s[j].toNat with ⟨h1, h2⟩ | h | h
      · have HN := Lib.hid (runN_step (s := s) hlt (by rw [ge_idx hlt]; exact ⟨h1, h2⟩))
        have q1 : decide ((48 : Int) ≤ (s[j].toNat : Int)) = true := decide_eq_true (by omega)
        have q2 : decide ((s[j].toNat : Int) ≤ 57) = true := decide_eq_true (by omega)
        clear h1 h2
        go_wp2_with go_in
        go_round
        case rel => exact ⟨j + 1, by omega, by go_num, by rw [← HN.out]; exact HR.out⟩
        case measure => simp [intOf]; omega
      · have HN := Lib.hid (runN_stop (s := s) (i := j) (fun hd => by rw [ge_idx hlt] at hd; have := hd.2.1; omega))
        have q1 : decide ((48 : Int) ≤ (s[j].toNat : Int)) = false := decide_eq_false (by omega)
        clear h
        go_wp2_with go_in
        go_ret
        exact ⟨ret_num (by rw [← HR.out, HN.out]), rfl⟩
      · have HN := Lib.hid (runN_stop (s := s) (i := j) (fun hd => by rw [ge_idx hlt] at hd; have := hd.2.2; omega))
        have q1 : decide ((48 : Int) ≤ (s[j].toNat : Int)) = true := decide_eq_true (by omega)
        have q2 : decide ((s[j].toNat : Int) ≤ 57) = false := decide_eq_false (by omega)
        clear h
        go_wp2_with go_in
        go_ret
        exact ⟨ret_num (by rw [← HR.out, HN.out]), rfl⟩
    · have HN := Lib.hid (runN_stop (s := s) (i := j) (fun hd => hlt hd.1))
      go_wp2_with go_in
      go_ret
      exact ⟨ret_num (by rw [← HR.out, HN.out]), rfl⟩
theorem specRunZ (s : ByteArray) (z : Int) (j : Nat) (hz : z = (j : Int)) (w : World) (hs : s.size ≤ 1048576) (hj : j ≤ s.size) :
    Calls Tryd.prog 69 #[.string s, .int .i64 z] w fun e w' => e = .returned (.int .i64 (runN s j)) ∧ w' = w := by
  subst hz; exact specRun s j w hs hj
theorem tup3 {a a' b b' c c' : Int} (h1 : a = a') (h2 : b = b') (h3 : c = c') : Ending.returned (.tuple #[.int .i64 a, .int .i64 b, .int .i64 c]) = Ending.returned (.tuple #[.int .i64 a', .int .i64 b', .int .i64 c']) := by rw [h1, h2, h3]
set_option maxHeartbeats 4000000 in
theorem specEnds_no (s : ByteArray) (f : Nat) (w : World) (hs : s.size ≤ 1048576) (hf : f ≤ s.size) (hr : runN s f = f) :
    Calls Tryd.prog 42 #[.string s, .int .i64 f] w fun e w' => e = .returned (.tuple #[.int .i64 (-1), .int .i64 (-1), .int .i64 (-1)]) ∧ w' = w := by
  have HR := Lib.hid (specRun s f w hs hf)
  rw [hr] at HR
  clear hr
  go_enter Tryd.func42, Tryd.ntmps42
  go_wp2_with fail
  refine HR.out.mono ?_
  rintro e w1 ⟨rfl, rfl⟩
  go_wp2_with fail
  go_ret3
  exact ⟨rfl, rfl⟩
set_option maxHeartbeats 8000000 in
theorem specEnds (s : ByteArray) (f : Nat) (w : World) (hs : s.size ≤ 1048576) (hf : f ≤ s.size) (hr : runN s f ≠ f) :
    Calls Tryd.prog 42 #[.string s, .int .i64 f] w fun e w' => e = .returned (.tuple #[.int .i64 (wholeAt s f), .int .i64 (fracN s (wholeAt s f)), .int .i64 (expN s (fracN s (wholeAt s f)))]) ∧ w' = w := by
  have hge := runN_ge hf
  have hfl : f < s.size := Classical.byContradiction fun h => hr (runN_stop (fun h2 => h h2.1))
  have hal := (wholeAt_le hf hr)
  have HW : Hid (wholeAt s f = if s[f].toNat = 48 then f + 1 else runN s f) := Lib.hid (by unfold wholeAt; rw [ge_idx hfl])
  obtain ⟨a, ha⟩ : ∃ a, wholeAt s f = a := ⟨_, rfl⟩
  have hq : ((runN s f : Int) == (f : Int)) = false := by rw [beq_eq_false_iff_ne]; omega
  rw [ha] at HW hal ⊢
  clear ha
  have hfl2 := fracN_le hal.2.2
  have HF : Hid (fracN s a = if a < s.size ∧ (s.get! a).toNat = 46 ∧ a + 1 < runN s (a + 1) then runN s (a + 1) else a) := Lib.hid rfl
  obtain ⟨b, hb⟩ : ∃ b, fracN s a = b := ⟨_, rfl⟩
  rw [hb] at HF hfl2 ⊢
  clear hb
  have HD : Hid (expN s b = if b < s.size ∧ ((s.get! b).toNat = 101 ∨ (s.get! b).toNat = 69) ∧ expK s b < runN s (expK s b) then runN s (expK s b) else b) := Lib.hid rfl
  have hdl := expN_le hfl2.2
  obtain ⟨d, hd⟩ : ∃ d, expN s b = d := ⟨_, rfl⟩
  rw [hd] at HD hdl ⊢
  clear hd
  have hu : s[f].toNat < 256 := UInt8.toNat_lt _
  go_enter Tryd.func42, Tryd.ntmps42
  go_wp2_with fail
  refine (specRun s f w hs hf).mono ?_
  rintro e w1 ⟨rfl, rfl⟩
  obtain ⟨r, hrr⟩ : ∃ r, runN s f = r := ⟨_, rfl⟩
  rw [hrr] at HW hq hge ⊢
  clear hrr hr
  go_upto_if 20 with fail
  go_cut [7] from 11 (fun z wx => z = .int .i64 a ∧ wx = w1)
  case first =>
    by_cases h48 : s[f].toNat = 48
    · have q : ((s[f].toNat : Int) == 48) = true := by rw [h48]; rfl
      have HA := Lib.hid (HW.out.trans (if_pos h48))
      clear h48
      go_wp2_with fail
      go_meet
      case rel => exact ⟨by rw [HA.out]; go_num, rfl⟩
    · have q : ((s[f].toNat : Int) == 48) = false := by rw [beq_eq_false_iff_ne]; omega
      have HA := Lib.hid (HW.out.trans (if_neg h48))
      clear h48
      go_wp2_with fail
      go_meet
      case rel => exact ⟨by rw [HA.out], rfl⟩
  case rest =>
    obtain ⟨rfl, rfl⟩ := hcut
    clear HW hq hge
    obtain ⟨tb, htb⟩ : ∃ tb : Bool, decide (a < s.size ∧ (s.get! a).toNat = 46 ∧ a + 1 < runN s (a + 1)) = tb := ⟨_, rfl⟩
    have HT := Lib.hid htb
    clear htb
    go_upto_region 7 with fail
    go_cut [42] from 11 (fun z wx => z = .bool tb ∧ wx = wc)
    case first =>
      by_cases h1 : a < s.size
      · have hua : s[a].toNat < 256 := UInt8.toNat_lt _
        by_cases h2 : s[a].toNat = 46
        · have q : ((s[a].toNat : Int) == 46) = true := by rw [h2]; rfl
          have HR := Lib.hid (specRunZ s ((a : Int) + 1) (a + 1) (by omega) wc hs (by omega))
          have hra := runN_ge (s := s) (i := a + 1) (by omega)
          have HE : Hid (decide ((a : Int) + 1 < (runN s (a + 1) : Int)) = tb) := Lib.hid (by
            rw [← HT.out, ge_idx h1]
            exact decide_eq_decide.2 ⟨fun h => ⟨h1, h2, by omega⟩, fun h => by have := h.2.2; omega⟩)
          obtain ⟨r, hr⟩ : ∃ r, runN s (a + 1) = r := ⟨_, rfl⟩
          rw [hr] at HR HE hra
          clear hr h2
          go_wp2_with fail
          refine HR.out.mono ?_
          rintro e w2 ⟨rfl, rfl⟩
          go_wp2_with fail
          go_meet
          case rel => exact ⟨congrArg Value.bool HE.out, rfl⟩
        · have q : ((s[a].toNat : Int) == 46) = false := by rw [beq_eq_false_iff_ne]; omega
          have HE : Hid (false = tb) := Lib.hid (by
            rw [← HT.out, ge_idx h1]
            exact (decide_eq_false (fun h => h2 h.2.1)).symm)
          clear h2
          go_wp2_with fail
          go_meet
          case rel => exact ⟨congrArg Value.bool HE.out, rfl⟩
      · have HE : Hid (false = tb) := Lib.hid (by
          rw [← HT.out]
          exact (decide_eq_false (fun h => h1 h.1)).symm)
        go_wp2_with fail
        go_meet
        case rel => exact ⟨congrArg Value.bool HE.out, rfl⟩
    case rest =>
      obtain ⟨rfl, rfl⟩ := hcut
      go_upto_if 42 with fail
      go_cut [8] from 11 (fun z wx => z = .int .i64 b ∧ wx = wc)
      case first =>
        cases tb with
        | true =>
          have h := of_decide_eq_true HT.out
          have HB := Lib.hid (HF.out.trans (if_pos h))
          have HR := Lib.hid (specRunZ s ((a : Int) + 1) (a + 1) (by omega) wc hs (by omega))
          have hra := runN_ge (s := s) (i := a + 1) (by omega)
          rw [← HB.out] at HR hra
          clear h
          go_wp2_with fail
          refine HR.out.mono ?_
          rintro e w2 ⟨rfl, rfl⟩
          go_wp2_with fail
          go_meet
          case rel => exact ⟨rfl, rfl⟩
        | false =>
          have HB := Lib.hid (HF.out.trans (if_neg (of_decide_eq_false HT.out)))
          go_wp2_with fail
          go_meet
          case rel => exact ⟨by rw [HB.out], rfl⟩
      case rest =>
        obtain ⟨rfl, rfl⟩ := hcut
        clear HF HT
        obtain ⟨te, hte⟩ : ∃ te : Bool, decide (b < s.size ∧ ((s.get! b).toNat = 101 ∨ (s.get! b).toNat = 69)) = te := ⟨_, rfl⟩
        have HT := Lib.hid hte
        clear hte
        go_upto_region 10 with fail
        go_cut [63] from 11 (fun z wx => z = .bool te ∧ wx = wc)
        case first =>
          by_cases h1 : b < s.size
          · have hub : s[b].toNat < 256 := UInt8.toNat_lt _
            rcases (show s[b].toNat = 101 ∨ s[b].toNat = 69 ∨ (s[b].toNat ≠ 101 ∧ s[b].toNat ≠ 69) by omega) with h2 | h2 | ⟨h2, h3⟩
            · have q : ((s[b].toNat : Int) == 101) = true := by rw [h2]; rfl
              have HE : Hid (true = te) := Lib.hid (by rw [← HT.out, ge_idx h1]; exact (decide_eq_true ⟨h1, .inl h2⟩).symm)
              clear h2
              go_wp2_with fail
              go_meet
              case rel => exact ⟨congrArg Value.bool HE.out, rfl⟩
            · have q : ((s[b].toNat : Int) == 101) = false := by rw [h2]; rfl
              have q2 : ((s[b].toNat : Int) == 69) = true := by rw [h2]; rfl
              have HE : Hid (true = te) := Lib.hid (by rw [← HT.out, ge_idx h1]; exact (decide_eq_true ⟨h1, .inr h2⟩).symm)
              clear h2
              go_wp2_with fail
              go_meet
              case rel => exact ⟨congrArg Value.bool HE.out, rfl⟩
            · have q : ((s[b].toNat : Int) == 101) = false := by rw [beq_eq_false_iff_ne]; omega
              have q2 : ((s[b].toNat : Int) == 69) = false := by rw [beq_eq_false_iff_ne]; omega
              have HE : Hid (false = te) := Lib.hid (by rw [← HT.out, ge_idx h1]; exact (decide_eq_false (fun h => h.2.elim h2 h3)).symm)
              clear h2 h3
              go_wp2_with fail
              go_meet
              case rel => exact ⟨congrArg Value.bool HE.out, rfl⟩
          · have HE : Hid (false = te) := Lib.hid (by rw [← HT.out]; exact (decide_eq_false (fun h => h1 h.1)).symm)
            go_wp2_with fail
            go_meet
            case rel => exact ⟨congrArg Value.bool HE.out, rfl⟩
        case rest =>
          obtain ⟨rfl, rfl⟩ := hcut
          go_upto_if 63 with fail
          go_cut [9] from 10 (fun z wx => z = .int .i64 d ∧ wx = wc)
          case first =>
            cases te with
            | false =>
              have HB := Lib.hid (HD.out.trans (if_neg (fun h => of_decide_eq_false HT.out ⟨h.1, h.2.1⟩)))
              go_wp2_with fail
              go_meet
              case rel => exact ⟨by rw [HB.out], rfl⟩
            | true =>
              have h := of_decide_eq_true HT.out
              have hbl : b < s.size := h.1
              have HB : Hid (d = if expK s b < runN s (expK s b) then runN s (expK s b) else b) := Lib.hid (by
                rw [HD.out]
                by_cases h3 : expK s b < runN s (expK s b)
                · rw [if_pos ⟨h.1, h.2, h3⟩, if_pos h3]
                · rw [if_neg (fun h4 => h3 h4.2.2), if_neg h3])
              have HKD : Hid (expK s b = if b + 1 < s.size ∧ ((s.get! (b + 1)).toNat = 43 ∨ (s.get! (b + 1)).toNat = 45) then b + 2 else b + 1) := Lib.hid rfl
              have hkl := expK_le hbl
              obtain ⟨k, hk⟩ : ∃ k, expK s b = k := ⟨_, rfl⟩
              rw [hk] at HB HKD hkl
              have hrk := runN_ge (s := s) (i := k) (by omega)
              have HR := Lib.hid (specRun s k wc hs (by omega))
              clear hk h HD
              obtain ⟨r, hr⟩ : ∃ r, runN s k = r := ⟨_, rfl⟩
              rw [hr] at HB HR hrk
              clear hr
              obtain ⟨tk, htk⟩ : ∃ tk : Bool, decide (b + 1 < s.size ∧ ((s.get! (b + 1)).toNat = 43 ∨ (s.get! (b + 1)).toNat = 45)) = tk := ⟨_, rfl⟩
              have HTK := Lib.hid htk
              clear htk
              go_upto_region 12 with fail
              go_cut [81] from 11 (fun z wx => z = .bool tk ∧ wx = wc)
              case first =>
                by_cases h1 : b + 1 < s.size
                · have hub : s[b + 1].toNat < 256 := UInt8.toNat_lt _
                  have hi1 : (b : Int) + 1 < s.size := by omega
                  rcases (show s[b + 1].toNat = 43 ∨ s[b + 1].toNat = 45 ∨ (s[b + 1].toNat ≠ 43 ∧ s[b + 1].toNat ≠ 45) by omega) with h2 | h2 | ⟨h2, h3⟩
                  · have q : ((s[b + 1].toNat : Int) == 43) = true := by rw [h2]; rfl
                    have HE : Hid (true = tk) := Lib.hid (by rw [← HTK.out, ge_idx h1]; exact (decide_eq_true ⟨h1, .inl h2⟩).symm)
                    clear h2
                    go_wp2_with fail
                    go_meet
                    case rel => exact ⟨congrArg Value.bool HE.out, rfl⟩
                  · have q : ((s[b + 1].toNat : Int) == 43) = false := by rw [h2]; rfl
                    have q2 : ((s[b + 1].toNat : Int) == 45) = true := by rw [h2]; rfl
                    have HE : Hid (true = tk) := Lib.hid (by rw [← HTK.out, ge_idx h1]; exact (decide_eq_true ⟨h1, .inr h2⟩).symm)
                    clear h2
                    go_wp2_with fail
                    go_meet
                    case rel => exact ⟨congrArg Value.bool HE.out, rfl⟩
                  · have q : ((s[b + 1].toNat : Int) == 43) = false := by rw [beq_eq_false_iff_ne]; omega
                    have q2 : ((s[b + 1].toNat : Int) == 45) = false := by rw [beq_eq_false_iff_ne]; omega
                    have HE : Hid (false = tk) := Lib.hid (by rw [← HTK.out, ge_idx h1]; exact (decide_eq_false (fun h => h.2.elim h2 h3)).symm)
                    clear h2 h3
                    go_wp2_with fail
                    go_meet
                    case rel => exact ⟨congrArg Value.bool HE.out, rfl⟩
                · have hi1 : ¬ (b : Int) + 1 < s.size := by omega
                  have HE : Hid (false = tk) := Lib.hid (by rw [← HTK.out]; exact (decide_eq_false (fun h => h1 h.1)).symm)
                  go_wp2_with fail
                  go_meet
                  case rel => exact ⟨congrArg Value.bool HE.out, rfl⟩
              case rest =>
                obtain ⟨rfl, rfl⟩ := hcut
                go_upto_if 81 with fail
                go_cut [10] from 11 (fun z wx => z = .int .i64 k ∧ wx = wc)
                case first =>
                  cases tk with
                  | true =>
                    have HK := Lib.hid (HKD.out.trans (if_pos (of_decide_eq_true HTK.out)))
                    go_wp2_with fail
                    go_meet
                    case rel => exact ⟨by rw [HK.out]; go_num, rfl⟩
                  | false =>
                    have HK := Lib.hid (HKD.out.trans (if_neg (of_decide_eq_false HTK.out)))
                    go_wp2_with fail
                    go_meet
                    case rel => exact ⟨by rw [HK.out]; go_num, rfl⟩
                case rest =>
                  obtain ⟨rfl, rfl⟩ := hcut
                  clear HKD HTK
                  go_wp2_with fail
                  refine HR.out.mono ?_
                  rintro e w2 ⟨rfl, rfl⟩
                  by_cases hkr : k < r
                  · have HB2 := Lib.hid (HB.out.trans (if_pos hkr))
                    have hkr' : (k : Int) < r := by omega
                    clear hkr
                    go_wp2_with fail
                    refine HR.out.mono ?_
                    rintro e w3 ⟨rfl, rfl⟩
                    go_wp2_with fail
                    go_meet
                    case rel => exact ⟨by rw [HB2.out], rfl⟩
                  · have HB2 := Lib.hid (HB.out.trans (if_neg hkr))
                    have hkr' : ¬ (k : Int) < r := by omega
                    clear hkr
                    go_wp2_with fail
                    go_meet
                    case rel => exact ⟨by rw [HB2.out], rfl⟩
          case rest =>
            obtain ⟨rfl, rfl⟩ := hcut
            go_wp2_with fail
            go_ret3
            exact ⟨rfl, rfl⟩
end Go.Proofs.YtbflkcldjjpioaaDoor

/-
  DecText of the program; what the library's numbers ask of the world.
-/
namespace Go.Proofs.YtbflkcldjjpioaaDoor
open Go.RowKit
set_option linter.unusedVariables false

theorem gPow : Tryd.prog.globalNamed "internal/strconv.uint64pow10" = some 2 := by kernel_rfl
/-- The table of the powers of ten lies as it was laid. -/
def Pow10 (w : World) : Prop := Lib.TabIs Tryd.prog w "internal/strconv.uint64pow10" .u64 Lib.pow10Tab
theorem Pow10.below {w w' : World} {B : Nat} (h : Pow10 w) (hb : Below B w w') (hB : w.heap.size ≤ B) : Pow10 w' := Go.Joins.tab_stays gPow h hb hB
theorem powD : (Rows.laid_internal_strconv_uint64pow10 : DataW Unit) = Lib.tabData .u64 Lib.pow10Tab := by kernel_rfl
theorem gPowT : (Tryd.prog.globals[2]?).map (·.type) = some 135 := by kernel_rfl
theorem pow_of_laid {l : List (String × DataW Unit)} {W : World} (h : laidMet Tryd.prog l W) (hm : ("internal/strconv.uint64pow10", Rows.laid_internal_strconv_uint64pow10) ∈ l) : Pow10 W := by
  obtain ⟨g', t', cs, fuel, p, hg', ht', hvar, hd⟩ := Lib.laidMet.reads h hm
  obtain rfl := Option.some.inj (gPow.symm.trans hg')
  obtain rfl := Option.some.inj (gPowT.symm.trans ht')
  rw [powD] at hd
  have hc := Lib.cells_of_tab Tryd.underlying135 Tryd.underlying112 (by kernel_rfl) (by kernel_rfl) hd
  show World.var? _ _ _ = _
  rw [hvar, ← hc]

theorem implDecText (n : Int) (w : World) (h : -9223372036854775808 ≤ n ∧ n ≤ 9223372036854775807) (hP : Pow10 w) :
    Calls Tryd.prog 10 #[.int .i64 n] w fun e w' => e = .returned (.string (str (Lib.itoa n))) ∧ Below w.heap.size w w' := by
  have HP := Lib.hid hP
  clear hP
  go_enter Tryd.func10, Tryd.ntmps10
  go_wp2_with fail
  refine (Tryd.strconv_Itoa n h.1 h.2 w HP.out).mono ?_
  rintro e w1 ⟨rfl, k, os, rfl⟩
  go_wp2_with fail
  go_ret
  exact ⟨rfl, Lib.below_grow _ _ (Nat.le_refl _) _ _⟩
end Go.Proofs.YtbflkcldjjpioaaDoor

/-
  ReadDec of the program, and both together.
-/
namespace Go.Proofs.YtbflkcldjjpioaaDoor
open Go.RowKit
set_option linter.unusedVariables false

theorem itoa_len (v : Int) (h : -9223372036854775808 ≤ v ∧ v ≤ 9223372036854775807) : (str (Lib.itoa v)).size ≤ 20 := by
  rw [strlen]
  unfold Lib.itoa
  split
  · have := dec_len v.natAbs (by omega)
    simp only [List.length_cons]; omega
  · have := dec_len v.toNat (by omega)
    omega
theorem specReadDec_yes (v : Int) (w : World) (h : -9223372036854775808 ≤ v ∧ v ≤ 9223372036854775807) :
    Calls Tryd.prog 11 #[.string (str (Lib.itoa v))] w fun e w' => e = .returned (.tuple #[.int .i64 v, .bool true]) ∧ w = w' := by
  by_cases h0 : v < 0
  · obtain ⟨u, rfl⟩ : ∃ u : Nat, v = -(u : Int) := ⟨v.natAbs, by omega⟩
    exact specReadDec_yesM u w (by omega) (by omega)
  · obtain ⟨u, rfl⟩ := Int.eq_ofNat_of_zero_le (show 0 ≤ v by omega)
    exact specReadDec_yesP u w (by omega)
theorem specReadDec_no (s : ByteArray) (w : World) (hs : s.size ≤ 1048576) (hno : NoDec s) :
    Calls Tryd.prog 11 #[.string s] w fun e w' => e = .returned (.tuple #[.int .i64 0, .bool false]) ∧ w = w' := by
  by_cases h0 : 0 < s.size
  · by_cases h45 : s[0].toNat = 45
    · exact specReadDec_noM s w hs hno h0 h45
    · exact specReadDec_noP s w hs hno h0 h45
  · exact specReadDec_noE s w hs hno (by omega)

/-- The library's two errors are there. -/
def Errs (w : World) : Prop := ∃ t p t' p', w.cell? ⟨0, 0, none⟩ = some (.iface t p) ∧ w.cell? ⟨1, 0, none⟩ = some (.iface t' p')
theorem Errs.below {w w' : World} {B : Nat} (h : Errs w) (hb : Below B w w') (hB : w.heap.size ≤ B) : Errs w' := by
  obtain ⟨t, p, t', p', h1, h2⟩ := h
  refine ⟨t, p, t', p', ?_, ?_⟩
  · rw [hb.cell (Nat.lt_of_lt_of_le (block_lt_of_cell h1) hB)]; exact h1
  · rw [hb.cell (Nat.lt_of_lt_of_le (block_lt_of_cell h2) hB)]; exact h2
theorem atoi_world {w w' : World} {e : TypeId} (h : w' = w ∨ ∃ t, w' = Lib.bytesWorld w e t) : Below w.heap.size w w' := by
  rcases h with rfl | ⟨t, rfl⟩
  · exact Below.refl _ _
  · exact Lib.bytesWorld_below _ _ _

set_option maxHeartbeats 1000000 in
theorem implReadDec_ok (s : ByteArray) (v : Int) (w : World) (hs : s.size ≤ 1048576) (h : -9223372036854775808 ≤ v ∧ v ≤ 9223372036854775807) (ha : Lib.atoiAll s.data.toList = .ok v) (b : Bool) (hb : ((str (Lib.itoa v)).toList == s.toList) = b) (hP : Pow10 w) :
    Calls Tryd.prog 12 #[.string s] w fun e w' => e = .returned (.tuple #[.int .i64 (if b then v else 0), .bool b]) ∧ Below w.heap.size w w' := by
  have HP := Lib.hid hP
  have HB := Lib.hid hb
  clear hP hb
  go_enter Tryd.func12, Tryd.ntmps12
  go_wp2_with fail
  refine (Tryd.strconv_Atoi_ok s (by omega) v ha w).mono ?_
  rintro e w1 ⟨rfl, hw1⟩
  have hb1 := atoi_world hw1
  clear hw1
  go_wp2_with fail
  refine (Tryd.strconv_Itoa v h.1 h.2 w1 (HP.out.below hb1 (Nat.le_refl _))).mono ?_
  rintro e w2 ⟨rfl, k, os, rfl⟩
  have hb2 := Lib.below_grow w1.heap.size w1 (Nat.le_refl _) k os
  have HB' : ((str (Lib.itoa v)).toList == s.toList) = b := HB.out
  rw [show (⟨(Lib.itoa v).toArray⟩ : ByteArray) = str (Lib.itoa v) from rfl]
  cases b with
  | true =>
    go_wp2_with fail
    all_goals go_ret2
    all_goals first
      | exact ⟨rfl, hb1.trans (hb2.mono hb1.size)⟩
      | (have hq : (!(str (Lib.itoa v)).toList == s.toList) = true := by assumption
         rw [HB'] at hq; cases hq)
  | false =>
    go_wp2_with fail
    all_goals go_ret2
    all_goals first
      | exact ⟨rfl, hb1.trans (hb2.mono hb1.size)⟩
      | (have hq : (!(str (Lib.itoa v)).toList == s.toList) = false := by assumption
         rw [HB'] at hq; cases hq)
theorem implReadDec_yes (v : Int) (w : World) (h : -9223372036854775808 ≤ v ∧ v ≤ 9223372036854775807) (hP : Pow10 w) :
    Calls Tryd.prog 12 #[.string (str (Lib.itoa v))] w fun e w' => e = .returned (.tuple #[.int .i64 v, .bool true]) ∧ Below w.heap.size w w' :=
  implReadDec_ok _ v w (Nat.le_trans (itoa_len v h) (by omega)) h (by have e : (str (Lib.itoa v)).data.toList = Lib.itoa v := by simp [str]
                                                                      rw [e]; exact atoi_itoa v h) true (by simp) hP

set_option maxHeartbeats 1000000 in
theorem implReadDec_no (s : ByteArray) (w : World) (hs : s.size ≤ 1048576) (hno : NoDec s) (hP : Pow10 w) (hE : Errs w) :
    Calls Tryd.prog 12 #[.string s] w fun e w' => e = .returned (.tuple #[.int .i64 0, .bool false]) ∧ Below w.heap.size w w' := by
  cases ha : Lib.atoiAll s.data.toList with
  | ok v =>
    have h := Lib.atoiAll_bounds ha
    exact implReadDec_ok s v w hs h ha false (by rw [ba_list]; exact decide_eq_false (hno v h)) hP
  | range =>
    obtain ⟨t, p, t', p', h1, h2⟩ := hE
    have H2 := Lib.hid h2
    clear h1 h2
    go_enter Tryd.func12, Tryd.ntmps12
    go_wp2_with fail
    refine (Tryd.strconv_Atoi_range s (by omega) ha _ w H2.out (.inr ⟨_, _, rfl⟩)).mono ?_
    rintro e w1 ⟨N, rfl, hN, hc, hb1⟩
    go_wp2_with fail
    go_ret2
    exact ⟨rfl, hb1⟩
  | _ =>
    obtain ⟨t, p, t', p', h1, h2⟩ := hE
    have H1 := Lib.hid h1
    clear h1 h2
    go_enter Tryd.func12, Tryd.ntmps12
    go_wp2_with fail
    refine (Tryd.strconv_Atoi_bad s (by omega) (fun v e => by rw [ha] at e; cases e) (fun e => by rw [ha] at e; cases e) _ w H1.out (.inr ⟨_, _, rfl⟩)).mono ?_
    rintro e w1 ⟨N, rfl, hN, hc, hb1⟩
    go_wp2_with fail
    go_ret2
    exact ⟨rfl, hb1⟩

theorem gES : Tryd.prog.globalNamed "strconv.ErrSyntax" = some 0 := by kernel_rfl
theorem gEST : (Tryd.prog.globals[0]?).map (·.type) = some 47 := by kernel_rfl
theorem gER : Tryd.prog.globalNamed "strconv.ErrRange" = some 1 := by kernel_rfl
theorem gERT : (Tryd.prog.globals[1]?).map (·.type) = some 47 := by kernel_rfl
theorem star : "*" ++ "errors.errorString" = "*errors.errorString" := by decide
theorem rowErr (u : TypeId) (h : Tryd.prog.typeName? 3 u = some "*errors.errorString") : u = 139 :=
  typeName_ptr_named (nm := "errors.errorString") (by rw [star]; kernel_rfl) (by kernel_rfl) (by decide) u (by rw [star]; exact h)
theorem errs_of_laid {l : List (String × DataW Unit)} {W : World} (h : laidMet Tryd.prog (("strconv.ErrRange", Rows.laid_strconv_ErrRange) :: ("strconv.ErrSyntax", Rows.laid_strconv_ErrSyntax) :: l) W) : Errs W := by
  obtain ⟨a0, s0, hv0, -, -, -⟩ := laid_sentinel h gER gERT Tryd.underlying47 rowErr Tryd.underlying139 Tryd.underlying141 rfl rfl Tryd.underlying9 (by kernel_rfl) (by kernel_rfl)
  obtain ⟨a1, s1, hv1, -, -, -⟩ := laid_sentinel h.tail gES gEST Tryd.underlying47 rowErr Tryd.underlying139 Tryd.underlying141 rfl rfl Tryd.underlying9 (by kernel_rfl) (by kernel_rfl)
  refine ⟨139, .pointer (some a1), 139, .pointer (some a0), ?_, ?_⟩
  · have := World.var?_cell gES hv1 0
    simpa using this
  · have := World.var?_cell gER hv0 0
    simpa using this
end Go.Proofs.YtbflkcldjjpioaaDoor

/-
  The program's exponent, and ReadDec in one form.
-/
namespace Go.Proofs.YtbflkcldjjpioaaDoor
open Go.RowKit
set_option linter.unusedVariables false
set_option linter.unusedSimpArgs false
set_option maxRecDepth 100000

theorem implReadZ (t : ByteArray) (w : World) (hs : t.size ≤ 1048576) (hP : Pow10 w) (hE : Errs w) :
    Calls Tryd.prog 12 #[.string t] w fun e w' => e = .returned (.tuple #[.int .i64 ((readZ t).getD 0), .bool (readZ t).isSome]) ∧ Below w.heap.size w w' := by
  cases h : readZ t with
  | some v =>
    obtain ⟨hv, rfl⟩ := readZ_some h
    exact implReadDec_yes v w hv hP
  | none => exact implReadDec_no t w hs (readZ_none h) hP hE
theorem specReadZ (t : ByteArray) (w : World) (hs : t.size ≤ 1048576) :
    Calls Tryd.prog 11 #[.string t] w fun e w' => e = .returned (.tuple #[.int .i64 ((readZ t).getD 0), .bool (readZ t).isSome]) ∧ w = w' := by
  cases h : readZ t with
  | some v =>
    obtain ⟨hv, rfl⟩ := readZ_some h
    exact specReadDec_yes v w hv
  | none => exact specReadDec_no t w hs (readZ_none h)
theorem readZ_range (t : ByteArray) : -9223372036854775808 ≤ (readZ t).getD 0 ∧ (readZ t).getD 0 ≤ 9223372036854775807 := by
  cases h : readZ t with
  | some v => exact (readZ_some h).1
  | none => simp
/-- Digits without a nought ahead are their number's own. -/
theorem dec_dval : ∀ (T : List UInt8) (a : UInt8), (∀ b ∈ a :: T, isDig b) → a ≠ 48 → Lib.decDigits (dval (a :: T)) = a :: T := by
  have key : ∀ (k : Nat) (T : List UInt8), T.length = k → ∀ a, (∀ b ∈ a :: T, isDig b) → a ≠ 48 → Lib.decDigits (dval (a :: T)) = a :: T ∧ 1 ≤ dval (a :: T) := by
    intro k
    induction k with
    | zero =>
      intro T hT a hd ha
      have : T = [] := List.eq_nil_of_length_eq_zero hT
      subst this
      have h1 := hd a (by simp)
      have h2 : a.toNat ≠ 48 := fun e => ha (UInt8.toNat_inj.1 e)
      unfold isDig at h1
      have e : dval [a] = a.toNat - 48 := by simp [dval]
      rw [e, Lib.decDigits, dif_pos (by omega)]
      refine ⟨?_, by omega⟩
      congr 1
      apply UInt8.toNat_inj.1
      rw [UInt8.toNat_ofNat']
      omega
    | succ k ih =>
      intro T hT a hd ha
      rcases List.eq_nil_or_concat T with h | ⟨r, c, h⟩
      · subst h; simp at hT
      · rw [List.concat_eq_append] at h
        subst h
        obtain ⟨h1, h2⟩ := ih r (by simpa using hT) a (fun b hb => hd b (by rcases List.mem_cons.1 hb with rfl | hb <;> simp [*])) ha
        have hc := hd c (by simp)
        unfold isDig at hc
        rw [← List.cons_append, dval_snoc]
        refine ⟨?_, by omega⟩
        rw [Lib.decDigits, dif_neg (by omega), show (10 * dval (a :: r) + (c.toNat - 48)) / 10 = dval (a :: r) by omega, h1, show (10 * dval (a :: r) + (c.toNat - 48)) % 10 = c.toNat - 48 by omega]
        congr 2
        apply UInt8.toNat_inj.1
        rw [UInt8.toNat_ofNat']
        omega
  exact fun T a hd ha => (key T.length T rfl a hd ha).1
theorem dval_lt : ∀ (l : List UInt8), (∀ b ∈ l, isDig b) → dval l < 10 ^ l.length := by
  have key : ∀ (k : Nat) (l : List UInt8), l.length = k → (∀ b ∈ l, isDig b) → dval l < 10 ^ k := by
    intro k
    induction k with
    | zero =>
      intro l hl _
      have : l = [] := List.eq_nil_of_length_eq_zero hl
      subst this
      decide
    | succ k ih =>
      intro l hl hd
      rcases List.eq_nil_or_concat l with h | ⟨r, c, h⟩
      · subst h; simp at hl
      · rw [List.concat_eq_append] at h
        subst h
        have h1 := ih r (by simpa using hl) (fun b hb => hd b (by simp [hb]))
        have hc := hd c (by simp)
        unfold isDig at hc
        rw [dval_snoc, Nat.pow_succ]
        omega
  exact fun l h => key l.length l rfl h
theorem readZ_digits {T : List UInt8} (hd : ∀ b ∈ T, isDig b) (hl : T.length ≤ 18) (h48 : ∀ a r, T = a :: r → a ≠ 48) (hne : T ≠ []) : readZ (str T) = some (dval T : Int) := by
  have hlt := dval_lt T hd
  have h18 : 10 ^ T.length ≤ 10 ^ 18 := Nat.pow_le_pow_right (by omega) hl
  cases T with
  | nil => exact absurd rfl hne
  | cons a r =>
    have e := dec_dval r a hd (h48 a r rfl)
    have := readZ_yes (v := (dval (a :: r) : Int)) (by omega)
    rw [itoa_pos, e] at this
    exact this
theorem readZ_empty : readZ (str []) = none := by
  cases h : readZ (str []) with
  | none => rfl
  | some v =>
    obtain ⟨hv, he⟩ := readZ_some h
    have := str_inj he
    unfold Lib.itoa at this
    split at this
    · cases this
    · exact absurd this (dec_ne _)
theorem readZ_nought : readZ (str [48]) = some 0 := by
  have := readZ_yes (v := 0) (by omega)
  rwa [show Lib.itoa 0 = [48] by decide +kernel] at this
theorem trim_exp {sg DD : List UInt8} (hs : sg = [] ∨ sg = [43] ∨ sg = [45]) (hd : ∀ b ∈ DD, isDig b) : Lib.trimLeftS (sg ++ DD) [43, 45, 48] = dropZ DD := by
  have h1 : ∀ l : List UInt8, (∀ b ∈ l, isDig b) → l.dropWhile (([43, 45, 48] : List UInt8).contains ·) = l.dropWhile (· == 48) := by
    intro l
    induction l with
    | nil => intro _; rfl
    | cons b l ih =>
      intro h
      have hb := h b (by simp)
      by_cases h48 : b = 48
      · subst h48
        rw [List.dropWhile_cons_of_pos (by decide), List.dropWhile_cons_of_pos (by decide)]
        exact ih (fun x hx => h x (by simp [hx]))
      · have h43 : b ≠ 43 := by rintro rfl; revert hb; decide
        have h45 : b ≠ 45 := by rintro rfl; revert hb; decide
        rw [List.dropWhile_cons_of_neg (by simp [h43, h45, h48]), List.dropWhile_cons_of_neg (by simp [h48])]
  unfold Lib.trimLeftS dropZ
  rcases hs with rfl | rfl | rfl
  · exact h1 DD hd
  · rw [List.singleton_append, List.dropWhile_cons_of_pos (by decide)]; exact h1 DD hd
  · rw [List.singleton_append, List.dropWhile_cons_of_pos (by decide)]; exact h1 DD hd
theorem ascii_cut : ∀ (j : Nat) b, (⟨#[43, 45, 48]⟩ : ByteArray).data.toList[j]? = some b → b.toNat < 128 := by
  intro j b h
  have : ∀ x ∈ (⟨#[43, 45, 48]⟩ : ByteArray).data.toList, x.toNat < 128 := by decide
  exact this b (List.mem_of_getElem? h)

set_option maxHeartbeats 2000000 in
theorem implExpOf_none (w : World) : Calls Tryd.prog 52 #[.string (str [])] w fun e w' => e = .returned (.int .i64 0) ∧ w' = w := by
  have hE : (str []).toList.isEmpty = true := by rw [ByteArray.toList_eq]; rfl
  obtain ⟨s, hs⟩ : ∃ s, str [] = s := ⟨_, rfl⟩
  rw [hs] at hE ⊢
  clear hs
  go_enter Tryd.func52, Tryd.ntmps52
  go_wp2_with fail
  go_ret
  exact ⟨rfl, rfl⟩
set_option maxHeartbeats 4000000 in
theorem implExpOf (l sg DD : List UInt8) (x : UInt8) (w : World) (h : ExpOf l x sg DD) (hl : l.length ≤ 100) (hP : Pow10 w) (hE : Errs w) :
    Calls Tryd.prog 52 #[.string (str l)] w fun e w' => e = .returned (.int .i64 (expI sg DD)) ∧ Below w.heap.size w w' := by
  have hl0 := h.1
  have hdz : ∀ b ∈ dropZ DD, isDig b := fun b hb => h.2.2.2.2 b (dropZ_mem hb)
  have hne : (str l).toList.isEmpty = false := by
    rw [ByteArray.toList_eq, hl0]; rfl
  have hsz : (str l).size = l.length := strlen l
  have hl2 : 2 ≤ l.length := by
    rw [hl0]
    have := List.length_pos_iff.2 h.2.2.2.1
    simp only [List.length_cons, List.length_append]; omega
  have hcut : (str l).extract 1 (str l).size = str (sg ++ DD) := by
    apply ByteArray.ext
    apply Array.ext'
    rw [hl0]
    simp [str, ByteArray.size]
    exact List.take_of_length_le (by simp)
  have HTR := Lib.hid (fun W => Tryd.strings_TrimLeft_set (str (sg ++ DD)) ⟨#[43, 45, 48]⟩ W (by decide) ascii_cut)
  rw [show (Lib.trimLeftS (str (sg ++ DD)).data.toList (⟨#[43, 45, 48]⟩ : ByteArray).data.toList) = dropZ DD from (by have := trim_exp h.2.2.1 h.2.2.2.2; simpa [str] using this)] at HTR
  have HTR2 : Hid (∀ W, Calls Tryd.prog 49 #[.string (str (sg ++ DD)), .string ⟨#[43, 45, 48]⟩] W fun e w' => e = .returned (.string (str (dropZ DD))) ∧ Below W.heap.size W w') := HTR
  have h1 : ∀ hh, ((str l)[1]'hh).toNat = 45 ↔ sg = [45] := by
    intro hh
    have e : ∀ hh2, ((str l)[1]'hh) = l[1]'hh2 := fun hh2 => rfl
    have hlt : 1 < l.length := by omega
    rw [e hlt]
    obtain ⟨rfl, hx, hs, hne2, hd⟩ := h
    rcases hs with rfl | rfl | rfl
    · constructor
      · intro h45
        cases DD with
        | nil => exact absurd rfl hne2
        | cons c r =>
          have := hd c (by simp)
          have h45' : c.toNat = 45 := h45
          unfold isDig at this
          omega
      · intro h; cases h
    · constructor
      · intro h45; exact absurd (show (43 : UInt8).toNat = 45 from h45) (by decide)
      · intro h; cases h
    · exact ⟨fun _ => rfl, fun _ => rfl⟩
  have hlt1 : 1 < (str l).size := by omega
  obtain ⟨tm, htm⟩ : ∃ tm : Bool, decide (sg = [45]) = tm := ⟨_, rfl⟩
  have hq : ∀ hh, ((((str l)[1]'hh).toNat : Int) == 45) = tm := by
    intro hh
    rw [← htm, Bool.eq_iff_iff, beq_iff_eq, decide_eq_true_iff]
    have := h1 hh
    exact ⟨fun h => this.1 (by omega), fun h => by have := this.2 h; omega⟩
  have HX : Hid (expI sg DD = if tm = true then -(magI DD : Int) else (magI DD : Int)) := Lib.hid (by
    unfold expI
    by_cases hc : sg = [45]
    · rw [if_pos hc, if_pos (by rw [← htm]; exact decide_eq_true hc)]
    · rw [if_neg hc, if_neg (by rw [← htm, decide_eq_false hc]; simp)])
  have hm := magI_le DD h.2.2.2.2
  have HM : Hid (magI DD = if (dropZ DD).length < 6 then dval (dropZ DD) else 100000) := Lib.hid rfl
  have htl : (str (dropZ DD)).size = (dropZ DD).length := strlen _
  have htle : (dropZ DD).length ≤ 100 := by
    have h1 := dropZ_len DD
    have h2 := congrArg List.length hl0
    simp only [List.length_cons, List.length_append] at h2
    omega
  have HZ := Lib.hid (fun W hP hE => implReadZ (str (dropZ DD)) W (by omega) hP hE)
  have h48 : ∀ a r, dropZ DD = a :: r → a ≠ 48 := fun a r h => dropZ_head h
  have HRZ : Hid ((dropZ DD).length < 6 → (dropZ DD = [] ∧ readZ (str (dropZ DD)) = none ∧ dval (dropZ DD) = 0) ∨ readZ (str (dropZ DD)) = some (dval (dropZ DD) : Int)) := Lib.hid (fun hlt => by
    by_cases he : dropZ DD = []
    · rw [he]; exact .inl ⟨rfl, readZ_empty, rfl⟩
    · exact .inr (readZ_digits hdz (by omega) h48 he))
  have HZ0 := Lib.hid (fun W hP hE => implReadZ ((⟨#[48]⟩ : ByteArray) ++ str (dropZ DD)) W (by rw [ByteArray.size_append, htl]; have : (⟨#[48]⟩ : ByteArray).size = 1 := rfl; omega) hP hE)
  have HZN : Hid (dropZ DD = [] → readZ ((⟨#[48]⟩ : ByteArray) ++ str (dropZ DD)) = some 0) := Lib.hid (fun he => by
    rw [he, show ((⟨#[48]⟩ : ByteArray) ++ str []) = str [48] by apply ByteArray.ext; simp [str]]
    exact readZ_nought)
  have HP := Lib.hid hP
  have HE := Lib.hid hE
  obtain ⟨mg, hmg⟩ : ∃ mg, magI DD = mg := ⟨_, rfl⟩
  rw [hmg] at HX HM hm
  obtain ⟨T, hT⟩ : ∃ T, dropZ DD = T := ⟨_, rfl⟩
  rw [hT] at HTR2 HM htl htle HZ HRZ HZ0 HZN
  obtain ⟨t, ht⟩ : ∃ t, str T = t := ⟨_, rfl⟩
  rw [ht] at HTR2 htl HZ HRZ HZ0 HZN
  clear h1
  generalize str l = s at hne hsz hcut hq hlt1 ⊢
  have hsl : 2 ≤ s.size := by omega
  have hsm : s.size ≤ 100 := by omega
  have htz : t.size ≤ 100 := by omega
  obtain ⟨xr, hxr⟩ : ∃ xr, expI sg DD = xr := ⟨_, rfl⟩
  rw [hxr] at HX ⊢
  clear hxr ht hT hmg hdz h48 hP hE htm HTR h hl0 hsz hl2 hl
  go_enter Tryd.func52, Tryd.ntmps52
  go_wp2_with fail
  try rw [hcut]
  refine (HTR2.out w).mono ?_
  rintro e w1 ⟨rfl, hb1⟩
  have HP1 : Hid (Pow10 w1) := Lib.hid (HP.out.below hb1 (Nat.le_refl _))
  have HE1 : Hid (Errs w1) := Lib.hid (HE.out.below hb1 (Nat.le_refl _))
  have hb1s := hb1.size
  by_cases hlt : T.length < 6
  · have hq6 : (t.size : Int) < 6 := by omega
    have HV := Lib.hid (HRZ.out hlt)
    have HMV := Lib.hid (HM.out.trans (if_pos hlt))
    have hdl : dval T ≤ 100000 := by rw [← HMV.out]; exact hm
    clear hlt HRZ HM
    go_wp2_with fail
    refine (HZ0.out w1 HP1.out HE1.out).mono ?_
    rintro e w2 ⟨rfl, hb2⟩
    have hb2' : Below w.heap.size w w2 := hb1.trans (hb2.mono hb1s)
    have HP2 : Hid (Pow10 w2) := Lib.hid (HP.out.below hb2' (Nat.le_refl _))
    have HE2 : Hid (Errs w2) := Lib.hid (HE.out.below hb2' (Nat.le_refl _))
    have hr2 := readZ_range ((⟨#[48]⟩ : ByteArray) ++ t)
    have hb2s := hb2'.size
    rcases HV.out with ⟨hT0, hz, hd0⟩ | hz
    · have HN := Lib.hid (HZN.out hT0)
      rw [HN.out]
      have HM0 : Hid (mg = 0) := Lib.hid (HMV.out.trans hd0)
      rw [hz] at HZ
      clear hT0 hz hd0 HV HMV HZN HZ0 hr2 hdl
      go_wp2_with fail
      refine (HZ.out w2 HP2.out HE2.out).mono ?_
      rintro e w3 ⟨rfl, hb3⟩
      have hb3' : Below w.heap.size w w3 := hb2'.trans (hb3.mono hb2s)
      cases tm with
      | true =>
        go_wp2_with fail
        go_ret
        exact ⟨ret_num (by rw [HX.out, HM0.out]; rfl), hb3'⟩
      | false =>
        go_wp2_with fail
        go_ret
        exact ⟨ret_num (by rw [HX.out, HM0.out]; rfl), hb3'⟩
    · obtain ⟨z0, hz0⟩ : ∃ z0, (readZ ((⟨#[48]⟩ : ByteArray) ++ t)).getD 0 = z0 := ⟨_, rfl⟩
      obtain ⟨z1, hz1⟩ : ∃ z1, (readZ ((⟨#[48]⟩ : ByteArray) ++ t)).isSome = z1 := ⟨_, rfl⟩
      rw [hz0, hz1]
      rw [hz] at HZ
      obtain ⟨dv, hdv⟩ : ∃ dv, dval T = dv := ⟨_, rfl⟩
      rw [hdv] at HZ HMV hdl
      clear hz HV hz0 hz1 hdv HZN HZ0 hr2
      go_wp2_with fail
      refine (HZ.out w2 HP2.out HE2.out).mono ?_
      rintro e w3 ⟨rfl, hb3⟩
      have hb3' : Below w.heap.size w w3 := hb2'.trans (hb3.mono hb2s)
      cases tm with
      | true =>
        go_wp2_with fail
        go_ret
        exact ⟨ret_num (by rw [HX.out, HMV.out]; first | rfl | simp), hb3'⟩
      | false =>
        go_wp2_with fail
        go_ret
        exact ⟨ret_num (by rw [HX.out, HMV.out]; rfl), hb3'⟩
  · have hq6 : ¬ (t.size : Int) < 6 := by omega
    have HMV := Lib.hid (HM.out.trans (if_neg hlt))
    clear hlt HRZ HM
    cases tm with
    | true =>
      go_wp2_with fail
      go_ret
      exact ⟨ret_num (by rw [HX.out, HMV.out]; rfl), hb1⟩
    | false =>
      go_wp2_with fail
      go_ret
      exact ⟨ret_num (by rw [HX.out, HMV.out]; rfl), hb1⟩
end Go.Proofs.YtbflkcldjjpioaaDoor

/-
  Norm of the reference.
-/
namespace Go.Proofs.YtbflkcldjjpioaaDoor
open Go.RowKit
set_option linter.unusedVariables false
set_option linter.unusedSimpArgs false
set_option maxRecDepth 100000

theorem tdiv_tenS {n x : Int} {k : Nat} (h : n = x * 10 ^ k) (hm : Int.tmod x 10 = 0) : n = Int.tdiv x 10 * 10 ^ (k + 1) := by
  have h1 := Int.tmod_add_mul_tdiv x 10
  rw [Int.pow_succ, Int.mul_comm (10 ^ k) 10, ← Int.mul_assoc, h]
  congr 1
  omega
theorem inR_tdivS {x : Int} (h : inR x) : inR (Int.tdiv x 10) := by
  have h1 := Int.tmod_add_mul_tdiv x 10
  have h3 : -10 < Int.tmod x 10 ∧ Int.tmod x 10 < 10 := by
    constructor
    · have := Int.lt_tmod_of_pos x (show (0 : Int) < 10 by omega); omega
    · exact Int.tmod_lt_of_pos _ (by omega)
  unfold inR at *
  omega
theorem tdiv_smallS {x : Int} (hx : x ≠ 0) : (Int.tdiv x 10).natAbs < x.natAbs := by
  rw [Int.natAbs_tdiv]
  exact Nat.div_lt_self (by omega) (by decide)
theorem tdiv_neS {x : Int} (hx : x ≠ 0) (hm : Int.tmod x 10 = 0) : Int.tdiv x 10 ≠ 0 := by
  have h1 := Int.tmod_add_mul_tdiv x 10
  intro h
  rw [hm, h] at h1
  omega
theorem big_power {x e : Int} (hx : x ≠ 0) (he : 20 < e) : ¬ (0 ≤ e ∧ inR (x * 10 ^ e.toNat)) := fun h => by
  have := pow_big hx h.2
  omega
/-- One step more. -/
theorem mul_step (x : Int) (i : Nat) : x * 10 ^ (i + 1) = x * 10 ^ i * 10 := by rw [Int.pow_succ, Int.mul_assoc]
theorem inR_less {x : Int} {i k : Nat} (h : i ≤ k) (hk : inR (x * 10 ^ k)) : inR (x * 10 ^ i) := by
  have e : x * 10 ^ k = x * 10 ^ i * 10 ^ (k - i) := by rw [Int.mul_assoc, ← Int.pow_add, show i + (k - i) = k by omega]
  rw [e] at hk
  exact inR_of_mul hk

set_option maxHeartbeats 1000000 in
theorem specTen (n : Int) (w : World) (hn : inR n) :
    Calls Tryd.prog 102 #[.int .i64 n] w fun e w' => e = .returned (.tuple #[.int .i64 (wrap64 (n * 10)), .bool (decide (inR (n * 10)))]) ∧ w = w' := by
  have hw := wrap_ten hn
  have HW : Hid ((wrap64 (Int.tdiv (wrap64 (n * 10)) 10) == n) = decide (inR (n * 10))) := Lib.hid (by
    rw [wrap_tdiv, Bool.eq_iff_iff, beq_iff_eq, decide_eq_true_iff]
    exact hw)
  have hr := hn
  unfold inR at hr
  clear hw hn
  go_enter Tryd.func102, Tryd.ntmps102
  go_wp2_with fail
  go_ret2
  exact ⟨by rw [HW.out]; rfl, rfl⟩
set_option maxHeartbeats 1000000 in
theorem specInt (n : Int) (w : World) : Calls Tryd.prog 70 #[.int .i64 n] w fun e w' => e = .returned ((V.int n).agg none 0) ∧ Below w.heap.size w w' := by
  go_enter Tryd.func70, Tryd.ntmps70
  go_wp2_with fail
  refine bodyPost_ret (v := .agg #[.int .i64 3, .int .i64 n, .int .i64 0, .string ⟨#[]⟩, .slice none 0 0]) (by simp [results, Tryd.results70, go_sem]) rfl ⟨rfl, ?_⟩
  repeat (first | exact (Below.refl _ w).alloc (Nat.le_refl _) _ | (refine Below.setCell ?_ (by simp) _))

set_option maxHeartbeats 8000000 in
theorem specNorm_out (n e : Int) (w : World) (he : ¬ (-1000 ≤ e ∧ e ≤ 1000)) : Calls Tryd.prog 71 #[.int .i64 n, .int .i64 e] w (NormRet n e w) := by
  have HN := Lib.hid (normR_out (n := n) he)
  rcases (show decide (-1000 ≤ e) = false ∨ (decide (-1000 ≤ e) = true ∧ decide (e ≤ 1000) = false) by
    by_cases h : -1000 ≤ e
    · exact .inr ⟨decide_eq_true h, decide_eq_false (fun h2 => he ⟨h, h2⟩)⟩
    · exact .inl (decide_eq_false h)) with hc | hc
  all_goals
    clear he
    go_enter Tryd.func71, Tryd.ntmps71
    go_wp2_with (go_at_call 27; go_in)
    refine bodyPost_ret (v := .tuple #[.agg #[.int .i64 0, .int .i64 0, .int .i64 0, .string ⟨#[]⟩, .slice none 0 0], .bool false]) (by simp [results, Tryd.results71, go_sem]) rfl (normRet_none HN.out rfl ?_)
    repeat (first | exact (Below.refl _ w).alloc (Nat.le_refl _) _ | (refine Below.setCell ?_ (by simp) _))

set_option maxHeartbeats 8000000 in
theorem specNorm_zero (e : Int) (w : World) (he : -1000 ≤ e ∧ e ≤ 1000) : Calls Tryd.prog 71 #[.int .i64 0, .int .i64 e] w (NormRet 0 e w) := by
  have HN := Lib.hid (normR_zero he)
  have hd1 : decide (-1000 ≤ e) = true := decide_eq_true he.1
  have hd2 : decide (e ≤ 1000) = true := decide_eq_true he.2
  clear he
  go_enter Tryd.func71, Tryd.ntmps71
  go_wp2_with (go_at_call 27; go_in)
  have B0 := Blk.new w 34 #[.int .i64 0, .int .i64 0, .int .i64 0, .string ⟨#[]⟩, .slice none 0 0]
  have b0 : Below w.heap.size w (w.alloc (.cells #[.int .i64 0, .int .i64 0, .int .i64 0, .string ⟨#[]⟩, .slice none 0 0] 34)) := (Below.refl _ w).alloc (Nat.le_refl _) _
  refine (specInt 0 _).mono ?_
  rintro r w1 ⟨rfl, hb1⟩
  have B1 := B0.below hb1 B0.lt
  obtain ⟨q0, q1, q2, q3, q4⟩ := B1.five
  have f0 := B1.frozen 0
  have f1 := B1.frozen 1
  have f2 := B1.frozen 2
  have f3 := B1.frozen 3
  have f4 := B1.frozen 4
  have b1 := b0.trans (hb1.mono b0.size)
  have HB1 := Lib.hid b1
  clear B0 b0 hb1 B1 b1
  unfold V.agg
  go_wp2_with fail
  refine bodyPost_ret (v := .tuple #[.agg #[.int .i64 3, .int .i64 0, .int .i64 0, .string ⟨#[]⟩, .slice none 0 0], .bool true]) (by simp [results, Tryd.results71, go_sem, q0, q1, q2, q3, q4, V.int, V.k, V.n, V.e, V.s, V.kids]) rfl (normRet_some HN.out rfl ?_)
  repeat (first | exact HB1.out | (refine Below.setCell ?_ (by simp) _))

set_option maxHeartbeats 8000000 in
theorem specNorm_in (n e : Int) (w : World) (hn : inR n) (h0 : n ≠ 0) (he : -1000 ≤ e ∧ e ≤ 1000) : Calls Tryd.prog 71 #[.int .i64 n, .int .i64 e] w (NormRet n e w) := by
  have hd1 : decide (-1000 ≤ e) = true := decide_eq_true he.1
  have hd2 : decide (e ≤ 1000) = true := decide_eq_true he.2
  have hq0 : (n == 0) = false := by simpa using h0
  obtain ⟨he1, he2⟩ := he
  have HN := Lib.hid hn
  have H0 := Lib.hid h0
  clear hn h0
  go_enter Tryd.func71, Tryd.ntmps71
  go_wp2_with (go_at_call 27; go_in)
  obtain ⟨w0, hw0⟩ : ∃ w0, w0 = w.alloc (.cells #[.int .i64 0, .int .i64 0, .int .i64 0, .string ⟨#[]⟩, .slice none 0 0] 34) := ⟨_, rfl⟩
  have B0 : Blk w0 w.heap.size 34 #[.int .i64 0, .int .i64 0, .int .i64 0, .string ⟨#[]⟩, .slice none 0 0] := by rw [hw0]; exact Blk.new w _ _
  have b0 : Below w.heap.size w w0 := by rw [hw0]; exact (Below.refl _ w).alloc (Nat.le_refl _) _
  rw [← hw0]
  have lv := B0.lt
  have HB0 := Lib.hid b0
  have HV0 := Lib.hid B0
  clear hw0 B0 b0
  go_loop [0, 1] (fun z y => ∃ (x : Int) (k : Nat), z = .int .i64 x ∧ y = .int .i64 (e + k) ∧ n = x * 10 ^ k ∧ inR x ∧ x ≠ 0) (fun z _ => (intOf z).natAbs)
  case atStart => exact ⟨n, 0, rfl, by simp, by simp, HN.out, H0.out⟩
  case round =>
    obtain ⟨x, k, rfl, rfl, hnx, hx, hx0⟩ := hrel
    have hxr := hx
    unfold inR at hxr
    have HX := Lib.hid hx
    have HNX := Lib.hid hnx
    obtain ⟨q0, q1, q2, q3, q4⟩ := HV0.out.five
    have f0 := HV0.out.frozen 0
    have f1 := HV0.out.frozen 1
    have f2 := HV0.out.frozen 2
    have f3 := HV0.out.frozen 3
    have f4 := HV0.out.frozen 4
    have hk18 : k ≤ 18 := pow_big hx0 (by rw [← hnx]; exact HN.out)
    by_cases hm : Int.tmod x 10 = 0
    · have qm : (Int.tmod x 10 == 0) = true := by rw [hm]; rfl
      have hq := inR_tdivS hx
      have hqr := hq
      unfold inR at hqr
      have HQ := Lib.hid hq
      have HT := Lib.hid (tdiv_tenS hnx hm)
      have HS := Lib.hid (tdiv_smallS hx0)
      have HNE := Lib.hid (tdiv_neS hx0 hm)
      clear hx hnx hm hx0 hq
      go_wp2_with fail
      go_round
      case rel => exact ⟨Int.tdiv x 10, k + 1, by go_num, by go_num, HT.out, HQ.out, HNE.out⟩
      case measure => simp only [intOf]; first | exact HS.out | (have := HS.out; go_num; omega)
    · have qm : (Int.tmod x 10 == 0) = false := by simpa using hm
      have HR := Lib.hid (normR_of ⟨he1, he2⟩ HN.out hm hnx)
      have HX0 := Lib.hid hx0
      clear hm hnx hx0
      by_cases hp : 0 ≤ e + (k : Int) ∧ e + (k : Int) ≤ 20
      · obtain ⟨hp1, hp2⟩ := hp
        have qp : decide (0 ≤ e + (k : Int)) = true := decide_eq_true hp1
        have qp2 : decide (e + (k : Int) ≤ 20) = true := decide_eq_true hp2
        obtain ⟨p, hpp⟩ := Int.eq_ofNat_of_zero_le hp1
        have HPP := Lib.hid hpp
        have hpt : (e + (k : Int)).toNat = p := by omega
        have HPT := Lib.hid hpt
        have hp20 : p ≤ 20 := by omega
        clear hx hpp hpt
        go_wp2_with fail
        go_loop [6, 7, 8] (fun m ok i => ∃ (j : Nat) (b : Bool) (y : Int), j ≤ p ∧ i = .int .i64 j ∧ ok = .bool b ∧ m = .int .i64 y ∧ ((b = true ∧ y = x * 10 ^ j ∧ inR (x * 10 ^ j)) ∨ (b = false ∧ ¬ inR (x * 10 ^ p)))) (fun _ ok i => 2 * (p - (intOf i).toNat) + (if ok = .bool true then 1 else 0))
        case atStart => exact ⟨0, true, x, Nat.zero_le _, rfl, rfl, rfl, .inl ⟨rfl, by simp, by simpa using HX.out⟩⟩
        case round =>
          obtain ⟨j, b, y, hj, rfl, rfl, rfl, hb⟩ := hrel
          rcases hb with ⟨rfl, hy, hin⟩ | ⟨rfl, hout⟩
          · by_cases hjp : j < p
            · have qj : decide ((j : Int) < e + (k : Int)) = true := decide_eq_true (by have := HPP.out; omega)
              rw [← hy] at hin
              have hyr := hin
              unfold inR at hyr
              have HIN := Lib.hid hin
              have HY := Lib.hid hy
              have hye : x * 10 ^ (j + 1) = y * 10 := by rw [mul_step, ← hy]
              have HYE := Lib.hid hye
              clear hy hin hye
              by_cases h10 : inR (y * 10)
              · have h10r := h10
                unfold inR at h10r
                have hw10 : wrap64 (y * 10) = y * 10 := by rw [wrap64_eq]; omega
                have HD := Lib.hid (decide_eq_true h10)
                have HI := Lib.hid h10
                clear h10
                go_wp2_with fail
                refine (specTen y w0 HIN.out).mono ?_
                rintro r w1 ⟨rfl, rfl⟩
                rw [HD.out, hw10]
                go_wp2_with fail
                go_round
                case rel => exact ⟨j + 1, true, y * 10, by omega, by go_num, rfl, rfl, .inl ⟨rfl, HYE.out.symm, by rw [HYE.out]; exact HI.out⟩⟩
                case measure => simp [intOf]; omega
              · have HD := Lib.hid (decide_eq_false h10)
                have HO : Hid (¬ inR (x * 10 ^ p)) := Lib.hid (fun h => h10 (by rw [← HYE.out]; exact inR_less (by omega) h))
                obtain ⟨y2, hy2⟩ : ∃ y2, wrap64 (y * 10) = y2 := ⟨_, rfl⟩
                clear h10
                go_wp2_with fail
                refine (specTen y w0 HIN.out).mono ?_
                rintro r w1 ⟨rfl, rfl⟩
                rw [HD.out, hy2]
                clear hy2
                go_wp2_with fail
                go_round
                case rel => exact ⟨j + 1, false, y2, by omega, by go_num, rfl, rfl, .inr ⟨rfl, HO.out⟩⟩
                case measure => simp [intOf]; omega
            · obtain rfl : j = p := by omega
              have qj : decide ((j : Int) < e + (k : Int)) = false := decide_eq_false (by have := HPP.out; omega)
              have HRV : Hid (normR n e = some (V.int y)) := Lib.hid (by
                rw [HR.out, normV_pos_some hp1 (by rw [HPT.out]; exact hin), HPT.out, ← hy])
              clear hy hin
              go_wp2_with fail
              refine (specInt y w0).mono ?_
              rintro r w1 ⟨rfl, hb1⟩
              have B1 := HV0.out.below hb1 lv
              have hl1 := B1.lt
              have HB1 : Hid (Below w.heap.size w w1) := Lib.hid (HB0.out.trans (hb1.mono HB0.out.size))
              clear q0 q1 q2 q3 q4 f0 f1 f2 f3 f4
              obtain ⟨q0, q1, q2, q3, q4⟩ := B1.five
              have f0 := B1.frozen 0
              have f1 := B1.frozen 1
              have f2 := B1.frozen 2
              have f3 := B1.frozen 3
              have f4 := B1.frozen 4
              clear hb1 B1
              unfold V.agg
              go_wp2_with fail
              refine bodyPost_ret (v := .tuple #[.agg #[.int .i64 3, .int .i64 y, .int .i64 0, .string ⟨#[]⟩, .slice none 0 0], .bool true]) (by simp [results, Tryd.results71, go_sem, q0, q1, q2, q3, q4, V.int, V.k, V.n, V.e, V.s, V.kids]) rfl (normRet_some HRV.out rfl ?_)
              repeat (first | exact HB1.out | (refine Below.setCell ?_ (by simp) _))
          · have HNO : Hid (¬ (0 ≤ e + (k : Int) ∧ inR (x * 10 ^ (e + (k : Int)).toNat))) := Lib.hid (fun h => hout (by rw [← HPT.out]; exact h.2))
            clear hout
            by_cases hjp : j < p
            · have qj : decide ((j : Int) < e + (k : Int)) = true := decide_eq_true (by have := HPP.out; omega)
              go_wp2_with fail
              obtain ⟨w2, hw2⟩ : ∃ w2, w2 = w0.alloc (.cells #[.int .i64 4, .int .i64 x, .int .i64 (e + k), .string ⟨#[]⟩, .slice none 0 0] 34) := ⟨_, rfl⟩
              have B2 : Blk w2 w0.heap.size 34 #[.int .i64 4, .int .i64 x, .int .i64 (e + k), .string ⟨#[]⟩, .slice none 0 0] := by rw [hw2]; exact Blk.new w0 _ _
              have bx2 : Below w0.heap.size w0 w2 := by rw [hw2]; exact (Below.refl _ w0).alloc (Nat.le_refl _) _
              rw [← hw2]
              clear hw2
              refine (specValueOk (V.dec x (e + k)) none 0 w2 (by simp [V.dec, V.weight, Vs.weight, ByteArray.size]) (by simp [V.dec, V.kids, Vs.at_])).mono ?_
              rintro r w3 ⟨rfl, hb3⟩
              have b03 : Below w0.heap.size w0 w3 := bx2.trans (hb3.mono bx2.size)
              have B3 := B2.below hb3 B2.lt
              have V3 := HV0.out.below b03 lv
              have bw3 : Below w.heap.size w w3 := HB0.out.trans (b03.mono HB0.out.size)
              have HBW := Lib.hid bw3
              have hl3 := V3.lt
              clear q0 q1 q2 q3 q4 f0 f1 f2 f3 f4
              obtain ⟨q0, q1, q2, q3, q4⟩ := V3.five
              obtain ⟨r0, r1, r2, r3, r4⟩ := B3.five
              have f0 := V3.frozen 0
              have f1 := V3.frozen 1
              have f2 := V3.frozen 2
              have f3 := V3.frozen 3
              have f4 := V3.frozen 4
              clear hb3 b03 bx2 B2 B3 V3 bw3
              by_cases hd : decOk x (e + k)
              · rw [show decide (okV (V.dec x (e + k))) = true from decide_eq_true ((okV_dec _ _).2 hd)]
                have HRV := Lib.hid (HR.out.trans (normV_dec HNO.out hd))
                clear hd
                go_wp2_with fail
                refine bodyPost_ret (v := .tuple #[.agg #[.int .i64 4, .int .i64 x, .int .i64 (e + k), .string ⟨#[]⟩, .slice none 0 0], .bool true]) (by simp [results, Tryd.results71, go_sem, q0, q1, q2, q3, q4]) rfl (normRet_some HRV.out rfl ?_)
                repeat (first | exact HBW.out | (refine Below.setCell ?_ (by simp) _))
              · rw [show decide (okV (V.dec x (e + k))) = false from decide_eq_false (fun h => hd ((okV_dec _ _).1 h))]
                have HRV := Lib.hid (HR.out.trans (normV_none HNO.out hd))
                clear hd
                go_wp2_with fail
                refine bodyPost_ret (v := .tuple #[.agg #[.int .i64 0, .int .i64 0, .int .i64 0, .string ⟨#[]⟩, .slice none 0 0], .bool false]) (by simp [results, Tryd.results71, go_sem, q0, q1, q2, q3, q4]) rfl (normRet_none HRV.out rfl ?_)
                repeat (first | exact HBW.out | (refine Below.setCell ?_ (by simp) _))
            · have qj : decide ((j : Int) < e + (k : Int)) = false := decide_eq_false (by have := HPP.out; omega)
              go_wp2_with fail
              obtain ⟨w2, hw2⟩ : ∃ w2, w2 = w0.alloc (.cells #[.int .i64 4, .int .i64 x, .int .i64 (e + k), .string ⟨#[]⟩, .slice none 0 0] 34) := ⟨_, rfl⟩
              have B2 : Blk w2 w0.heap.size 34 #[.int .i64 4, .int .i64 x, .int .i64 (e + k), .string ⟨#[]⟩, .slice none 0 0] := by rw [hw2]; exact Blk.new w0 _ _
              have bx2 : Below w0.heap.size w0 w2 := by rw [hw2]; exact (Below.refl _ w0).alloc (Nat.le_refl _) _
              rw [← hw2]
              clear hw2
              refine (specValueOk (V.dec x (e + k)) none 0 w2 (by simp [V.dec, V.weight, Vs.weight, ByteArray.size]) (by simp [V.dec, V.kids, Vs.at_])).mono ?_
              rintro r w3 ⟨rfl, hb3⟩
              have b03 : Below w0.heap.size w0 w3 := bx2.trans (hb3.mono bx2.size)
              have B3 := B2.below hb3 B2.lt
              have V3 := HV0.out.below b03 lv
              have bw3 : Below w.heap.size w w3 := HB0.out.trans (b03.mono HB0.out.size)
              have HBW := Lib.hid bw3
              have hl3 := V3.lt
              clear q0 q1 q2 q3 q4 f0 f1 f2 f3 f4
              obtain ⟨q0, q1, q2, q3, q4⟩ := V3.five
              obtain ⟨r0, r1, r2, r3, r4⟩ := B3.five
              have f0 := V3.frozen 0
              have f1 := V3.frozen 1
              have f2 := V3.frozen 2
              have f3 := V3.frozen 3
              have f4 := V3.frozen 4
              clear hb3 b03 bx2 B2 B3 V3 bw3
              by_cases hd : decOk x (e + k)
              · rw [show decide (okV (V.dec x (e + k))) = true from decide_eq_true ((okV_dec _ _).2 hd)]
                have HRV := Lib.hid (HR.out.trans (normV_dec HNO.out hd))
                clear hd
                go_wp2_with fail
                refine bodyPost_ret (v := .tuple #[.agg #[.int .i64 4, .int .i64 x, .int .i64 (e + k), .string ⟨#[]⟩, .slice none 0 0], .bool true]) (by simp [results, Tryd.results71, go_sem, q0, q1, q2, q3, q4]) rfl (normRet_some HRV.out rfl ?_)
                repeat (first | exact HBW.out | (refine Below.setCell ?_ (by simp) _))
              · rw [show decide (okV (V.dec x (e + k))) = false from decide_eq_false (fun h => hd ((okV_dec _ _).1 h))]
                have HRV := Lib.hid (HR.out.trans (normV_none HNO.out hd))
                clear hd
                go_wp2_with fail
                refine bodyPost_ret (v := .tuple #[.agg #[.int .i64 0, .int .i64 0, .int .i64 0, .string ⟨#[]⟩, .slice none 0 0], .bool false]) (by simp [results, Tryd.results71, go_sem, q0, q1, q2, q3, q4]) rfl (normRet_none HRV.out rfl ?_)
                repeat (first | exact HBW.out | (refine Below.setCell ?_ (by simp) _))
      · have HNO : Hid (¬ (0 ≤ e + (k : Int) ∧ inR (x * 10 ^ (e + (k : Int)).toNat))) := Lib.hid (fun h => by
          by_cases h20 : e + (k : Int) ≤ 20
          · exact hp ⟨h.1, h20⟩
          · exact big_power HX0.out (by omega) h)
        rcases (show decide (0 ≤ e + (k : Int)) = false ∨ (decide (0 ≤ e + (k : Int)) = true ∧ decide (e + (k : Int) ≤ 20) = false) by
          by_cases h : 0 ≤ e + (k : Int)
          · exact .inr ⟨decide_eq_true h, decide_eq_false (fun h2 => hp ⟨h, h2⟩)⟩
          · exact .inl (decide_eq_false h)) with hc | ⟨hc, hc2⟩
        all_goals
          clear hx hp
          go_wp2_with fail
          obtain ⟨w2, hw2⟩ : ∃ w2, w2 = w0.alloc (.cells #[.int .i64 4, .int .i64 x, .int .i64 (e + k), .string ⟨#[]⟩, .slice none 0 0] 34) := ⟨_, rfl⟩
          have B2 : Blk w2 w0.heap.size 34 #[.int .i64 4, .int .i64 x, .int .i64 (e + k), .string ⟨#[]⟩, .slice none 0 0] := by rw [hw2]; exact Blk.new w0 _ _
          have bx2 : Below w0.heap.size w0 w2 := by rw [hw2]; exact (Below.refl _ w0).alloc (Nat.le_refl _) _
          rw [← hw2]
          clear hw2
          refine (specValueOk (V.dec x (e + k)) none 0 w2 (by simp [V.dec, V.weight, Vs.weight, ByteArray.size]) (by simp [V.dec, V.kids, Vs.at_])).mono ?_
          rintro r w3 ⟨rfl, hb3⟩
          have b03 : Below w0.heap.size w0 w3 := bx2.trans (hb3.mono bx2.size)
          have B3 := B2.below hb3 B2.lt
          have V3 := HV0.out.below b03 lv
          have bw3 : Below w.heap.size w w3 := HB0.out.trans (b03.mono HB0.out.size)
          have HBW := Lib.hid bw3
          have hl3 := V3.lt
          clear q0 q1 q2 q3 q4 f0 f1 f2 f3 f4
          obtain ⟨q0, q1, q2, q3, q4⟩ := V3.five
          obtain ⟨r0, r1, r2, r3, r4⟩ := B3.five
          have f0 := V3.frozen 0
          have f1 := V3.frozen 1
          have f2 := V3.frozen 2
          have f3 := V3.frozen 3
          have f4 := V3.frozen 4
          clear hb3 b03 bx2 B2 B3 V3 bw3
          by_cases hd : decOk x (e + k)
          · rw [show decide (okV (V.dec x (e + k))) = true from decide_eq_true ((okV_dec _ _).2 hd)]
            have HRV := Lib.hid (HR.out.trans (normV_dec HNO.out hd))
            clear hd
            go_wp2_with fail
            refine bodyPost_ret (v := .tuple #[.agg #[.int .i64 4, .int .i64 x, .int .i64 (e + k), .string ⟨#[]⟩, .slice none 0 0], .bool true]) (by simp [results, Tryd.results71, go_sem, q0, q1, q2, q3, q4]) rfl (normRet_some HRV.out rfl ?_)
            repeat (first | exact HBW.out | (refine Below.setCell ?_ (by simp) _))
          · rw [show decide (okV (V.dec x (e + k))) = false from decide_eq_false (fun h => hd ((okV_dec _ _).1 h))]
            have HRV := Lib.hid (HR.out.trans (normV_none HNO.out hd))
            clear hd
            go_wp2_with fail
            refine bodyPost_ret (v := .tuple #[.agg #[.int .i64 0, .int .i64 0, .int .i64 0, .string ⟨#[]⟩, .slice none 0 0], .bool false]) (by simp [results, Tryd.results71, go_sem, q0, q1, q2, q3, q4]) rfl (normRet_none HRV.out rfl ?_)
            repeat (first | exact HBW.out | (refine Below.setCell ?_ (by simp) _))
theorem specNorm (n e : Int) (w : World) (hn : inR n) : Calls Tryd.prog 71 #[.int .i64 n, .int .i64 e] w (NormRet n e w) := by
  by_cases he : -1000 ≤ e ∧ e ≤ 1000
  · by_cases h0 : n = 0
    · subst h0; exact specNorm_zero e w he
    · exact specNorm_in n e w hn h0 he
  · exact specNorm_out n e w he
end Go.Proofs.YtbflkcldjjpioaaDoor

/-
  The reference's power, and a number made.
-/
namespace Go.Proofs.YtbflkcldjjpioaaDoor
open Go.RowKit
set_option linter.unusedVariables false
set_option linter.unusedSimpArgs false
set_option maxRecDepth 100000

theorem fold_step (l : List UInt8) (k : Nat) (h : k < (str l).size) : (l.take (k + 1)).foldl capF 0 = capF ((l.take k).foldl capF 0) (str l)[k] := by
  have hl : k < l.length := by rwa [strlen] at h
  rw [List.take_succ_eq_append_getElem hl, List.foldl_append]
  rfl
theorem sign_step (l : List UInt8) (k : Nat) (h : k < (str l).size) : ((45 : UInt8) ∈ l.take (k + 1)) ↔ ((45 : UInt8) ∈ l.take k ∨ (str l)[k].toNat = 45) := by
  have hl : k < l.length := by rwa [strlen] at h
  rw [List.take_succ_eq_append_getElem hl, List.mem_append, List.mem_singleton]
  show ((45 : UInt8) ∈ List.take k l ∨ 45 = l[k]) ↔ ((45 : UInt8) ∈ List.take k l ∨ l[k].toNat = 45)
  constructor
  · rintro (h | h)
    · exact .inl h
    · exact .inr (by rw [← h]; rfl)
  · rintro (h | h)
    · exact .inl h
    · exact .inr (UInt8.toNat_inj.1 h).symm
set_option maxHeartbeats 4000000 in
theorem specPower (l : List UInt8) (w : World) (hl : l.length ≤ 1000) :
    Calls Tryd.prog 45 #[.string (str l)] w fun e w' => e = .returned (.int .i64 (powS l)) ∧ w' = w := by
  have hsz : (str l).size ≤ 1000 := by rw [strlen]; exact hl
  have HL : Hid ((str l).size = l.length) := Lib.hid (strlen l)
  have HX : Hid (powS l = (if (45 : UInt8) ∈ l then -1 else 1) * ((l.foldl capF 0 : Nat) : Int)) := Lib.hid rfl
  have HF := Lib.hid (fold_step l)
  have HS := Lib.hid (sign_step l)
  generalize str l = s at hsz HL HF HS ⊢
  clear hl
  go_enter Tryd.func45, Tryd.ntmps45
  go_wp2_with fail
  go_loop [3, 4, 5] (fun n sg i => ∃ k : Nat, k ≤ s.size ∧ i = .int .i64 k ∧ n = .int .i64 ((l.take k).foldl capF 0 : Nat) ∧ sg = .int .i64 (if (45 : UInt8) ∈ l.take k then -1 else 1)) (fun _ _ i => s.size - (intOf i).toNat)
  case atStart => exact ⟨0, Nat.zero_le _, rfl, rfl, rfl⟩
  case round =>
    obtain ⟨k, hk, rfl, rfl, rfl⟩ := hrel
    have hcl := cap_lt (l.take k) 0 (by omega)
    by_cases hlt : k < s.size
    · have hu : s[k].toNat < 256 := UInt8.toNat_lt _
      have HFk := Lib.hid (HF.out k hlt)
      have HSk := Lib.hid (HS.out k hlt)
      obtain ⟨sg, hsg⟩ : ∃ sg : Int, (if (45 : UInt8) ∈ l.take k then -1 else 1) = sg := ⟨_, rfl⟩
      have HSG := Lib.hid hsg
      obtain ⟨n, hn⟩ : ∃ n, (l.take k).foldl capF 0 = n := ⟨_, rfl⟩
      rw [hn] at hcl HFk ⊢
      rw [hsg]
      clear hn hsg
      by_cases h45 : s[k].toNat = 45
      · have q : ((s[k].toNat : Int) == 45) = true := by rw [h45]; rfl
        have HN : Hid ((l.take (k + 1)).foldl capF 0 = n) := Lib.hid (by rw [HFk.out, capF_not (by unfold isDig; omega)])
        have HG : Hid ((if (45 : UInt8) ∈ l.take (k + 1) then (-1 : Int) else 1) = -1) := Lib.hid (if_pos (HSk.out.2 (.inr h45)))
        clear h45
        go_wp2_with go_in
        go_round
        case rel => exact ⟨k + 1, by omega, by go_num, by rw [HN.out], by rw [HG.out]⟩
        case measure => simp [intOf]; omega
      · have q : ((s[k].toNat : Int) == 45) = false := by rw [beq_eq_false_iff_ne]; omega
        have HG : Hid ((if (45 : UInt8) ∈ l.take (k + 1) then (-1 : Int) else 1) = sg) := Lib.hid (by
          rw [← HSG.out]
          by_cases hm : (45 : UInt8) ∈ l.take k
          · rw [if_pos (HSk.out.2 (.inl hm)), if_pos hm]
          · rw [if_neg (fun h => (HSk.out.1 h).elim hm h45), if_neg hm])
        clear h45
        rcases dig_cases s[k].toNat with ⟨h1, h2⟩ | h | h
        · have q1 : decide ((48 : Int) ≤ (s[k].toNat : Int)) = true := decide_eq_true (by omega)
          have q2 : decide ((s[k].toNat : Int) ≤ 57) = true := decide_eq_true (by omega)
          by_cases hbig : n < 10000
          · have q3 : decide ((n : Int) < 10000) = true := decide_eq_true (by omega)
            have HN : Hid ((l.take (k + 1)).foldl capF 0 = 10 * n + (s[k].toNat - 48)) := Lib.hid (by rw [HFk.out]; unfold capF isDig; rw [if_pos ⟨⟨h1, h2⟩, hbig⟩])
            go_wp2_with go_in
            go_round
            case rel => exact ⟨k + 1, by omega, by go_num, by rw [HN.out]; go_num, by rw [HG.out]⟩
            case measure => simp [intOf]; omega
          · have q3 : decide ((n : Int) < 10000) = false := decide_eq_false (by omega)
            have HN : Hid ((l.take (k + 1)).foldl capF 0 = n) := Lib.hid (by rw [HFk.out]; unfold capF; rw [if_neg (fun h => hbig h.2)])
            go_wp2_with go_in
            go_round
            case rel => exact ⟨k + 1, by omega, by go_num, by rw [HN.out], by rw [HG.out]⟩
            case measure => simp [intOf]; omega
        · have q1 : decide ((48 : Int) ≤ (s[k].toNat : Int)) = false := decide_eq_false (by omega)
          have HN : Hid ((l.take (k + 1)).foldl capF 0 = n) := Lib.hid (by rw [HFk.out, capF_not (by unfold isDig; omega)])
          go_wp2_with go_in
          go_round
          case rel => exact ⟨k + 1, by omega, by go_num, by rw [HN.out], by rw [HG.out]⟩
          case measure => simp [intOf]; omega
        · have q1 : decide ((48 : Int) ≤ (s[k].toNat : Int)) = true := decide_eq_true (by omega)
          have q2 : decide ((s[k].toNat : Int) ≤ 57) = false := decide_eq_false (by omega)
          have HN : Hid ((l.take (k + 1)).foldl capF 0 = n) := Lib.hid (by rw [HFk.out, capF_not (by unfold isDig; omega)])
          go_wp2_with go_in
          go_round
          case rel => exact ⟨k + 1, by omega, by go_num, by rw [HN.out], by rw [HG.out]⟩
          case measure => simp [intOf]; omega
    · obtain rfl : k = s.size := by omega
      have e : l.take s.size = l := by rw [HL.out]; exact List.take_length
      rw [e] at hcl ⊢
      obtain ⟨n, hn⟩ : ∃ n, l.foldl capF 0 = n := ⟨_, rfl⟩
      rw [hn] at HX hcl ⊢
      by_cases hm : (45 : UInt8) ∈ l
      · rw [if_pos hm] at HX ⊢
        clear hm
        go_wp2_with go_in
        go_ret
        exact ⟨ret_num (by rw [HX.out]; omega), rfl⟩
      · rw [if_neg hm] at HX ⊢
        clear hm
        go_wp2_with go_in
        go_ret
        exact ⟨ret_num (by rw [HX.out]; omega), rfl⟩

/-- A value and a place are handed back. -/
def RetN (v : V) (z : Int) (w : World) (r : Ending) (w' : World) : Prop := r = .returned (.tuple #[v.agg none 0, .int .i64 z]) ∧ Below w.heap.size w w'
set_option maxHeartbeats 8000000 in
theorem specMade (n e z : Int) (w : World) (hn : inR n) : Calls Tryd.prog 44 #[.int .i64 n, .int .i64 e, .int .i64 z] w (RetN (normD n e) (if normB n e then z else -1) w) := by
  have HN := Lib.hid (fun W => specNorm n e W hn)
  have B0 := Blk.new w 34 #[.int .i64 0, .int .i64 0, .int .i64 0, .string ⟨#[]⟩, .slice none 0 0]
  have b0 : Below w.heap.size w (w.alloc (.cells #[.int .i64 0, .int .i64 0, .int .i64 0, .string ⟨#[]⟩, .slice none 0 0] 34)) := (Below.refl _ w).alloc (Nat.le_refl _) _
  have HB0 := Lib.hid B0
  have Hb0 := Lib.hid b0
  clear B0 b0
  obtain ⟨v, hv⟩ : ∃ v, normD n e = v := ⟨_, rfl⟩
  obtain ⟨ok, hok⟩ : ∃ ok, normB n e = ok := ⟨_, rfl⟩
  unfold NormRet at HN
  rw [hv, hok] at HN
  have HV : Hid (ok = false → v = V.nought) := Lib.hid (fun h => by
    rw [h] at hok
    rw [← hv]
    unfold normB at hok
    unfold normD
    cases hh : normR n e with
    | none => rfl
    | some x => rw [hh] at hok; cases hok)
  rw [hv, hok]
  obtain ⟨zz, hzz⟩ : ∃ zz, (if ok then z else -1) = zz := ⟨_, rfl⟩
  rw [hzz]
  clear hv hok
  unfold V.agg at HN
  go_enter Tryd.func44, Tryd.ntmps44
  go_wp2_with fail
  refine (HN.out _).mono ?_
  rintro r w1 ⟨rfl, hb1⟩
  go_upto_region 2 with fail
  have B1 := (HB0.out.below hb1 HB0.out.lt).alloc (.cells #[.int .i64 v.k, .int .i64 v.n, .int .i64 v.e, .string v.s, .slice none v.kids.length 0] 34)
  have Bv := Blk.new w1 34 #[.int .i64 v.k, .int .i64 v.n, .int .i64 v.e, .string v.s, .slice none v.kids.length 0]
  have b1 := (Hb0.out.trans (hb1.mono Hb0.out.size)).alloc (Nat.le_trans Hb0.out.size hb1.size) (.cells #[.int .i64 v.k, .int .i64 v.n, .int .i64 v.e, .string v.s, .slice none v.kids.length 0] 34)
  have hne : w1.heap.size ≠ w.heap.size := by have := HB0.out.lt; have := hb1.size; omega
  obtain ⟨w2, hw2⟩ : ∃ w2, w1.alloc (.cells #[.int .i64 v.k, .int .i64 v.n, .int .i64 v.e, .string v.s, .slice none v.kids.length 0] 34) = w2 := ⟨_, rfl⟩
  rw [hw2] at B1 Bv b1 ⊢
  obtain ⟨q0, q1, q2, q3, q4⟩ := B1.five
  obtain ⟨p0, p1, p2, p3, p4⟩ := Bv.five
  have f0 := B1.frozen 0
  have f1 := B1.frozen 1
  have f2 := B1.frozen 2
  have f3 := B1.frozen 3
  have f4 := B1.frozen 4
  have HB1 := Lib.hid b1
  clear hb1 B1 b1 hw2 Bv
  cases ok with
  | false =>
    have HVV := Lib.hid (HV.out rfl)
    have HZ : Hid (zz = -1) := Lib.hid hzz.symm
    clear hzz
    go_wp2_with fail
    refine bodyPost_ret (v := .tuple #[.agg #[.int .i64 0, .int .i64 0, .int .i64 0, .string ⟨#[]⟩, .slice none 0 0], .int .i64 (-1)]) (by simp [results, Tryd.results44, go_sem, q0, q1, q2, q3, q4]) rfl ⟨by rw [HVV.out, HZ.out]; rfl, ?_⟩
    repeat (first | exact HB1.out | (refine Below.setCell ?_ (by simp) _))
  | true =>
    have HZ : Hid (zz = z) := Lib.hid hzz.symm
    clear hzz
    go_wp2_with fail
    refine bodyPost_ret (v := .tuple #[.agg #[.int .i64 v.k, .int .i64 v.n, .int .i64 v.e, .string v.s, .slice none v.kids.length 0], .int .i64 z]) (by simp [results, Tryd.results44, go_sem, q0, q1, q2, q3, q4]) rfl ⟨by rw [HZ.out]; rfl, ?_⟩
    repeat (first | exact HB1.out | (refine Below.setCell ?_ (by simp) _))
end Go.Proofs.YtbflkcldjjpioaaDoor

/-
  The reference's number of many digits.
-/
namespace Go.Proofs.YtbflkcldjjpioaaDoor
open Go.RowKit
set_option linter.unusedVariables false
set_option linter.unusedSimpArgs false
set_option maxRecDepth 100000

set_option maxHeartbeats 8000000 in
theorem specLong (s : ByteArray) (i f a b d : Nat) (w : World) (hs : s.size ≤ 1048576) (hia : i ≤ a) (ha : a ≤ s.size) (v : V) (z : Int)
    (hv : (∃ n, readZ (s.extract i a) = some n ∧ d ≤ a ∧ v = V.int n ∧ z = d) ∨ ((readZ (s.extract i a) = none ∨ a < d) ∧ v = V.nought ∧ z = -1)) :
    Calls Tryd.prog 43 #[.string s, .int .i64 i, .int .i64 f, .int .i64 a, .int .i64 b, .int .i64 d] w (RetN v z w) := by
  have HZ := Lib.hid (fun W => specReadZ (s.extract i a) W (by rw [ByteArray.size_extract]; omega))
  have hx0 : (0 : Int) ≤ (i : Int) ∧ (i : Int) ≤ (a : Int) ∧ (a : Int) ≤ (s.size : Int) := by omega
  obtain ⟨hx1, hx2, hx3⟩ := hx0
  have B0 := Blk.new w 34 #[.int .i64 0, .int .i64 0, .int .i64 0, .string ⟨#[]⟩, .slice none 0 0]
  have b0 : Below w.heap.size w (w.alloc (.cells #[.int .i64 0, .int .i64 0, .int .i64 0, .string ⟨#[]⟩, .slice none 0 0] 34)) := (Below.refl _ w).alloc (Nat.le_refl _) _
  have HB0 := Lib.hid B0
  have Hb0 := Lib.hid b0
  have hr0 := readZ_range (s.extract i a)
  clear B0 b0 hia ha
  rcases hv with ⟨n, hz, hd, rfl, rfl⟩ | ⟨hz, rfl, rfl⟩
  · rw [hz] at HZ hr0
    have hq : ¬ (a : Int) < (d : Int) := by omega
    have HI := Lib.hid (fun W => specInt n W)
    clear hz hd
    unfold V.agg at HI
    go_enter Tryd.func43, Tryd.ntmps43
    go_wp2_with fail
    refine (HZ.out _).mono ?_
    rintro r w1 ⟨rfl, rfl⟩
    go_wp2_with fail
    refine (HI.out _).mono ?_
    rintro r w1 ⟨rfl, hb1⟩
    have B1 := HB0.out.below hb1 HB0.out.lt
    have b1 := Hb0.out.trans (hb1.mono Hb0.out.size)
    obtain ⟨q0, q1, q2, q3, q4⟩ := B1.five
    have f0 := B1.frozen 0
    have f1 := B1.frozen 1
    have f2 := B1.frozen 2
    have f3 := B1.frozen 3
    have f4 := B1.frozen 4
    have HB1 := Lib.hid b1
    clear hb1 B1 b1
    go_wp2_with fail
    refine bodyPost_ret (v := .tuple #[.agg #[.int .i64 3, .int .i64 n, .int .i64 0, .string ⟨#[]⟩, .slice none 0 0], .int .i64 d]) (by simp [results, Tryd.results43, go_sem, q0, q1, q2, q3, q4, V.int, V.k, V.n, V.e, V.s, V.kids]) rfl ⟨rfl, ?_⟩
    repeat (first | exact HB1.out | (refine Below.setCell ?_ (by simp) _))
  · obtain ⟨q0, q1, q2, q3, q4⟩ := HB0.out.five
    have f0 := HB0.out.frozen 0
    have f1 := HB0.out.frozen 1
    have f2 := HB0.out.frozen 2
    have f3 := HB0.out.frozen 3
    have f4 := HB0.out.frozen 4
    obtain ⟨w0, hw0⟩ : ∃ w0, w.alloc (.cells #[.int .i64 0, .int .i64 0, .int .i64 0, .string ⟨#[]⟩, .slice none 0 0] 34) = w0 := ⟨_, rfl⟩
    rw [hw0] at q0 q1 q2 q3 q4 f0 f1 f2 f3 f4 Hb0
    have HW0 := Lib.hid hw0
    clear hw0 HB0
    cases h1 : readZ (s.extract i a) with
    | none =>
      rw [h1] at HZ
      clear h1 hz hr0
      go_enter Tryd.func43, Tryd.ntmps43
      go_wp2_with fail
      rw [HW0.out]
      refine (HZ.out _).mono ?_
      rintro r w1 ⟨rfl, rfl⟩
      go_wp2_with fail
      refine bodyPost_ret (v := .tuple #[.agg #[.int .i64 0, .int .i64 0, .int .i64 0, .string ⟨#[]⟩, .slice none 0 0], .int .i64 (-1)]) (by simp [results, Tryd.results43, go_sem, q0, q1, q2, q3, q4]) rfl ⟨rfl, ?_⟩
      repeat (first | exact Hb0.out | (refine Below.setCell ?_ (by simp) _))
    | some n =>
      rw [h1] at HZ hr0 hz
      have hq : (a : Int) < (d : Int) := by
        rcases hz with h | h
        · cases h
        · omega
      clear h1 hz
      go_enter Tryd.func43, Tryd.ntmps43
      go_wp2_with fail
      rw [HW0.out]
      refine (HZ.out _).mono ?_
      rintro r w1 ⟨rfl, rfl⟩
      go_wp2_with fail
      refine bodyPost_ret (v := .tuple #[.agg #[.int .i64 0, .int .i64 0, .int .i64 0, .string ⟨#[]⟩, .slice none 0 0], .int .i64 (-1)]) (by simp [results, Tryd.results43, go_sem, q0, q1, q2, q3, q4]) rfl ⟨rfl, ?_⟩
      repeat (first | exact Hb0.out | (refine Below.setCell ?_ (by simp) _))
end Go.Proofs.YtbflkcldjjpioaaDoor

/-
  The reference's ReadNum.
-/
namespace Go.Proofs.YtbflkcldjjpioaaDoor
open Go.RowKit
set_option linter.unusedVariables false
set_option linter.unusedSimpArgs false
set_option maxRecDepth 100000

theorem lead_size (R : List UInt8) (m : Nat) : (str (List.replicate m 48 ++ R)).size = m + R.length := by rw [strlen]; simp
theorem lead_first (R : List UInt8) (m : Nat) (h : 0 < (str (List.replicate (m + 1) 48 ++ R)).size) : (str (List.replicate (m + 1) 48 ++ R))[0] = 48 := by
  have h2 : 0 < (List.replicate (m + 1) 48 ++ R).length := by simp; omega
  have h3 : (List.replicate (m + 1) (48 : UInt8) ++ R)[0]'h2 = 48 := by simp [List.replicate_succ]
  exact h3
theorem lead_cut (R : List UInt8) (m : Nat) : (str (List.replicate (m + 1) 48 ++ R)).extract 1 (str (List.replicate (m + 1) 48 ++ R)).size = str (List.replicate m 48 ++ R) := by
  apply ByteArray.ext
  apply Array.ext'
  rw [List.replicate_succ, List.cons_append]
  simp [str, ByteArray.size]
  exact List.take_of_length_le (by simp)
theorem head_of {R r : List UInt8} {a : UInt8} (h : R = a :: r) (h2 : 0 < (str R).size) : (str R)[0]'h2 = a := by
  subst h; rfl
theorem tail_size2 (T : List UInt8) (m : Nat) : (str (T ++ List.replicate m 48)).size = T.length + m := by rw [strlen]; simp
theorem tail_cut2 (T : List UInt8) (m : Nat) : (str (T ++ List.replicate (m + 1) 48)).extract 0 (T.length + m) = str (T ++ List.replicate m 48) := by
  apply ByteArray.ext
  apply Array.ext'
  have e : (T ++ List.replicate (m + 1) 48) = (T ++ List.replicate m 48) ++ [48] := by rw [List.replicate_succ', List.append_assoc]
  rw [e, ByteArray.data_extract]
  simp only [str, Array.toList_extract, List.extract_eq_take_drop, List.drop_zero, Nat.sub_zero]
  exact List.take_left' (by simp)
theorem tail_last2 (T : List UInt8) (m : Nat) (h : T.length + m < (str (T ++ List.replicate (m + 1) 48)).size) : (str (T ++ List.replicate (m + 1) 48))[T.length + m] = 48 := by
  have h2 : T.length + m < (T ++ List.replicate (m + 1) 48).length := by simp
  have h3 : (T ++ List.replicate (m + 1) 48)[T.length + m] = 48 := by rw [List.getElem_append_right (by omega)]; simp
  exact h3
theorem last_of2 {l r : List UInt8} {a : UInt8} (h : l = r ++ [a]) (h2 : r.length < (str l).size) : (str l)[r.length]'h2 = a := by
  subst h
  have h4 : r.length < (r ++ [a]).length := by simp
  have h3 : (r ++ [a])[r.length]'h4 = a := by simp
  exact h3
theorem ext_str {s : ByteArray} {i j : Nat} (h : i ≤ j) : s.extract i j = str (piece s i (j - i)) := by
  apply ba_ext
  have := extract_piece s i (j - i)
  rw [show i + (j - i) = j by omega] at this
  rw [this]
  simp [str]
theorem str_join (a b : List UInt8) : str a ++ str b = str (a ++ b) := by
  apply ByteArray.ext
  apply Array.ext'
  simp [str]

theorem powE_range (s : ByteArray) (b d : Nat) : -100000 ≤ powS (piece s b (d - b)) ∧ powS (piece s b (d - b)) ≤ 100000 := by
  have h := cap_lt (piece s b (d - b)) 0 (by omega)
  unfold powS
  split <;> omega
set_option maxHeartbeats 16000000 in
theorem specReadNum_in (s : ByteArray) (i : Nat) (w : World) (hs : s.size ≤ 1048576) (hi : i < s.size) (hr : runN s (fAt s i) ≠ fAt s i) :
    Calls Tryd.prog 22 #[.string s, .int .i64 i] w (RetN (rdV (rnP s i)) (rdE (rnP s i)) w) := by
  obtain ⟨f, hf⟩ : ∃ f, fAt s i = f := ⟨_, rfl⟩
  have hfl := fAt_le hi
  have HF : Hid (f = if s[i].toNat = 45 then i + 1 else i) := Lib.hid (by rw [← hf]; unfold fAt; rw [ge_idx hi])
  rw [hf] at hr hfl
  obtain ⟨a, ha⟩ : ∃ a, wholeAt s f = a := ⟨_, rfl⟩
  have hal := wholeAt_le hfl.2.2 hr
  rw [ha] at hal
  obtain ⟨b, hb⟩ : ∃ b, fracN s a = b := ⟨_, rfl⟩
  have hbl := fracN_le hal.2.2
  rw [hb] at hbl
  obtain ⟨d, hd⟩ : ∃ d, expN s b = d := ⟨_, rfl⟩
  have hdl := expN_le hbl.2
  rw [hd] at hdl
  have HENDS := Lib.hid (fun W => specEnds s f W hs hfl.2.2 hr)
  rw [ha, hb, hd] at HENDS
  have hRN := rnP_at hi hf hr ha hb hd
  have hD := dgs_dig hfl.2.2 hr ha hb
  have hDl := dgs_len (s := s) (f := f) (a := a) (b := b) (by omega) hal.2.2 hbl.2
  have HDD : Hid (dgs s f a b = piece s f (a - f) ++ (if a < b then piece s (a + 1) (b - (a + 1)) else [])) := Lib.hid rfl
  have hfew := rnO_few (s := s) hi hf hr ha hb hd
  have hmany := rnO_many (s := s) hi hf hr ha hb hd
  obtain ⟨D, hDe⟩ : ∃ D, dgs s f a b = D := ⟨_, rfl⟩
  rw [hDe] at hD hDl HDD hfew hmany
  obtain ⟨v, hv⟩ : ∃ v, rdV (rnP s i) = v := ⟨_, rfl⟩
  obtain ⟨z, hz⟩ : ∃ z, rdE (rnP s i) = z := ⟨_, rfl⟩
  rw [hRN] at hv hz
  rw [hRN, hv, hz]
  have hu : s[i].toNat < 256 := UInt8.toNat_lt _
  have HB0 := Lib.hid (Blk.new w 34 #[.int .i64 0, .int .i64 0, .int .i64 0, .string ⟨#[]⟩, .slice none 0 0])
  have Hb0 : Hid (Below w.heap.size w (w.alloc (.cells #[.int .i64 0, .int .i64 0, .int .i64 0, .string ⟨#[]⟩, .slice none 0 0] 34))) := Lib.hid ((Below.refl _ w).alloc (Nat.le_refl _) _)
  obtain ⟨w0, hw0⟩ : ∃ w0, w.alloc (.cells #[.int .i64 0, .int .i64 0, .int .i64 0, .string ⟨#[]⟩, .slice none 0 0] 34) = w0 := ⟨_, rfl⟩
  rw [hw0] at HB0 Hb0
  have HW0 := Lib.hid hw0
  by_cases h60 : 60 < d - i
  · -- too long
    have hq60 : (60 : Int) < (d : Int) - i := by omega
    rw [rnO_far h60] at hv hz
    have HV : Hid (v = V.nought) := Lib.hid hv.symm
    have HZ : Hid (z = -1) := Lib.hid hz.symm
    obtain ⟨q0, q1, q2, q3, q4⟩ := HB0.out.five
    have f0 := HB0.out.frozen 0
    have f1 := HB0.out.frozen 1
    have f2 := HB0.out.frozen 2
    have f3 := HB0.out.frozen 3
    have f4 := HB0.out.frozen 4
    clear hw0 hv hz h60 hfew hmany hDe hRN hd hb ha hf hr hD hDl
    go_enter Tryd.func22, Tryd.ntmps22
    go_upto_if 27 with fail
    rw [HW0.out]
    go_cut [6] from 14 (fun y wx => y = .int .i64 f ∧ wx = w0)
    case first =>
      by_cases h45 : s[i].toNat = 45
      · have q : ((s[i].toNat : Int) == 45) = true := by rw [h45]; rfl
        have HA := Lib.hid (HF.out.trans (if_pos h45))
        clear h45
        go_wp2_with fail
        go_meet
        case rel => exact ⟨by rw [HA.out]; go_num, rfl⟩
      · have q : ((s[i].toNat : Int) == 45) = false := by rw [beq_eq_false_iff_ne]; omega
        have HA := Lib.hid (HF.out.trans (if_neg h45))
        clear h45
        go_wp2_with fail
        go_meet
        case rel => exact ⟨by rw [HA.out], rfl⟩
    case rest =>
      obtain ⟨rfl, rfl⟩ := hcut
      go_wp2_with fail
      refine (HENDS.out _).mono ?_
      rintro e w1 ⟨rfl, rfl⟩
      go_wp2_with fail
      refine bodyPost_ret (v := .tuple #[.agg #[.int .i64 0, .int .i64 0, .int .i64 0, .string ⟨#[]⟩, .slice none 0 0], .int .i64 (-1)]) (by simp [results, Tryd.results22, go_sem, q0, q1, q2, q3, q4]) rfl ⟨by rw [HV.out, HZ.out]; rfl, ?_⟩
      repeat (first | exact Hb0.out | (refine Below.setCell ?_ (by simp) _))
  · have hq60 : ¬ (60 : Int) < (d : Int) - i := by omega
    have hfew := hfew h60
    have hmany := hmany h60
    have hDne : D ≠ [] := by
      intro h
      rw [h] at hDl
      simp only [List.length_nil] at hDl
      omega
    have hLsp := keepL_split hDne
    have hTsp := keepT_split D
    have hLl := keepL_len hDne
    have hTl := keepT_len D
    have hTd := keepT_dig hD
    have hLs := keepL_stop D
    have hTs := keepT_stop D
    have hDv : dval (keepT D) < 10 ^ (keepT D).length := dval_lt _ hTd
    have hPw := powE_range s b d
    have hD60 : D.length ≤ 61 := by omega
    have HMANY : Hid (18 < (keepT D).length → ∀ W, Calls Tryd.prog 43 #[.string s, .int .i64 i, .int .i64 f, .int .i64 a, .int .i64 b, .int .i64 d] W (RetN v z W)) := Lib.hid (fun h18 W => by
      refine specLong s i f a b d W hs (by omega) hal.2.2 v z ?_
      rcases hmany h18 with ⟨n, h1, h2, h3⟩ | ⟨h1, h3⟩
      · rw [h3] at hv hz
        exact .inl ⟨n, h1, h2, hv.symm, hz.symm⟩
      · rw [h3] at hv hz
        exact .inr ⟨h1, hv.symm, hz.symm⟩)
    have HFEW : Hid ((keepT D).length ≤ 18 → ∀ W, Calls Tryd.prog 44 #[.int .i64 (sgnV (decide (i < f)) (dval (keepT D))), .int .i64 (-((b - (a + 1) : Nat) : Int) + (((keepL D).length - (keepT D).length : Nat) : Int) + powS (piece s b (d - b))), .int .i64 d] W (RetN v z W)) := Lib.hid (fun h18 W => by
      have h10 : 10 ^ (keepT D).length ≤ 10 ^ 18 := Nat.pow_le_pow_right (by omega) h18
      have h := specMade (sgnV (decide (i < f)) (dval (keepT D))) (-((b - (a + 1) : Nat) : Int) + (((keepL D).length - (keepT D).length : Nat) : Int) + powS (piece s b (d - b))) d W (sgnV_range (by omega)).1
      rw [hfew h18] at hv hz
      have h2 := rd_norm (n := sgnV (decide (i < f)) (dval (keepT D))) (e := -((b - (a + 1) : Nat) : Int) + (((keepL D).length - (keepT D).length : Nat) : Int) + powS (piece s b (d - b))) (d := d)
      rw [← h2.1, ← h2.2, hv, hz] at h
      exact h)
    have HPOW := Lib.hid (fun W => specPower (piece s b (d - b)) W (by rw [piece_len _ _ _ (by omega)]; omega))
    have hxd : s.extract f a = str (piece s f (a - f)) := ext_str (by omega)
    have hxp : s.extract b d = str (piece s b (d - b)) := ext_str (by omega)
    obtain ⟨pw, hpw⟩ : ∃ pw, powS (piece s b (d - b)) = pw := ⟨_, rfl⟩
    rw [hpw] at HPOW HFEW hPw
    obtain ⟨P, hP⟩ : ∃ P, str (piece s b (d - b)) = P := ⟨_, rfl⟩
    rw [hP] at HPOW hxp
    have HXP := Lib.hid hxp
    obtain ⟨R, hR⟩ : ∃ R, keepL D = R := ⟨_, rfl⟩
    obtain ⟨T, hT⟩ : ∃ T, keepT D = T := ⟨_, rfl⟩
    rw [hR] at HFEW hLsp hTsp hLl hTl hLs
    rw [hT] at HFEW HMANY hTsp hTl hTd hTs hDv
    obtain ⟨M, hM⟩ : ∃ M, D.length - R.length = M := ⟨_, rfl⟩
    obtain ⟨M', hM'⟩ : ∃ M', R.length - T.length = M' := ⟨_, rfl⟩
    rw [hM] at hLsp
    rw [hM'] at HFEW hTsp
    have HLSP := Lib.hid hLsp
    have HTSP := Lib.hid hTsp
    have HLS := Lib.hid hLs
    have HTS := Lib.hid hTs
    have hMl : M ≤ 61 := by omega
    have hMl' : M' ≤ 61 := by omega
    have hRl : R.length ≤ 61 := by omega
    have hTl2 : T.length ≤ 61 := by omega
    have HXD := Lib.hid hxd
    obtain ⟨fl, hfl'⟩ : ∃ fl, b - (a + 1) = fl := ⟨_, rfl⟩
    rw [hfl'] at HFEW
    have hfl3 : fl ≤ 61 := by omega
    have HTD := Lib.hid hDv
    have HVAL := Lib.hid (dval_take T)
    have HMONO := Lib.hid (dval_mono T)
    have HDIG : Hid (∀ k (h : k < (str T).size), 48 ≤ (str T)[k].toNat) := Lib.hid (fun k h => (hTd _ (List.getElem_mem (by rw [strlen] at h; exact h))).1)
    clear hw0 hv hz hfew hmany hDe hRN hd hb ha hf hr hD hxd hxp hpw hP hR hT hM hM' hLsp hTsp hLs hTs hDv hTd hDne hLl hTl h60
    go_enter Tryd.func22, Tryd.ntmps22
    go_upto_if 27 with fail
    rw [HW0.out]
    go_cut [6] from 14 (fun y wx => y = .int .i64 f ∧ wx = w0)
    case first =>
      by_cases h45 : s[i].toNat = 45
      · have q : ((s[i].toNat : Int) == 45) = true := by rw [h45]; rfl
        have HA := Lib.hid (HF.out.trans (if_pos h45))
        clear h45
        go_wp2_with fail
        go_meet
        case rel => exact ⟨by rw [HA.out]; go_num, rfl⟩
      · have q : ((s[i].toNat : Int) == 45) = false := by rw [beq_eq_false_iff_ne]; omega
        have HA := Lib.hid (HF.out.trans (if_neg h45))
        clear h45
        go_wp2_with fail
        go_meet
        case rel => exact ⟨by rw [HA.out], rfl⟩
    case rest =>
    obtain ⟨rfl, rfl⟩ := hcut
    go_wp2_with fail
    refine (HENDS.out _).mono ?_
    rintro e w1 ⟨rfl, rfl⟩
    go_upto_if 52 with fail
    rw [HXD.out]
    go_cut [10, 11] from 14 (fun y y2 wx => y = .string (str D) ∧ y2 = .int .i64 (-(fl : Int)) ∧ wx = w1)
    case first =>
      by_cases hab : a < b
      · have HDX := Lib.hid (HDD.out.trans (by rw [if_pos hab]))
        have hx2 : s.extract (a + 1) b = str (piece s (a + 1) (b - (a + 1))) := ext_str (by omega)
        have HX2 := Lib.hid hx2
        have hs1 : (str (piece s f (a - f))).size ≤ 100 := by rw [strlen, piece_len _ _ _ (by omega)]; omega
        have hs2 : (str (piece s (a + 1) (b - (a + 1)))).size ≤ 100 := by rw [strlen, piece_len _ _ _ (by omega)]; omega
        have hj := str_join (piece s f (a - f)) (piece s (a + 1) (b - (a + 1)))
        have HJ := Lib.hid hj
        have HS2 := Lib.hid hs2
        obtain ⟨X, hX⟩ : ∃ X, str (piece s f (a - f)) = X := ⟨_, rfl⟩
        rw [hX] at hs1 HJ ⊢
        have hs3 : (s.extract (a + 1) b).size ≤ 100 := by rw [hx2]; exact hs2
        have hab' : (a : Int) < (b : Int) := by omega
        clear hx2 hs2 hj hX hab
        go_wp2_with fail
        go_meet
        case rel => exact ⟨congrArg Value.string (by rw [HX2.out, HJ.out, ← HDX.out]), congrArg (Value.int .i64) (by omega), rfl⟩
      · have HDX := Lib.hid (HDD.out.trans (by rw [if_neg hab, List.append_nil]))
        have hab' : ¬ (a : Int) < (b : Int) := by omega
        have hfl0 : fl = 0 := by omega
        have HFL := Lib.hid hfl0
        clear hab hfl0
        go_wp2_with fail
        go_meet
        case rel => exact ⟨congrArg Value.string (by rw [HDX.out]), congrArg (Value.int .i64) (by rw [HFL.out]; rfl), rfl⟩
    case rest =>
    obtain ⟨rfl, rfl, rfl⟩ := hcut
    clear HDD HXD
    go_upto_block 0 with fail
    go_cut [10] from 14 (fun y wx => y = .string (str R) ∧ wx = wc)
    case first =>
      rw [HLSP.out]
      go_wp2_with fail
      go_loop [10] (fun y => ∃ m : Nat, m ≤ M ∧ y = .string (str (List.replicate m 48 ++ R))) (fun y => (match y with | .string x => x.size | _ => 0))
      case atStart => exact ⟨M, Nat.le_refl _, rfl⟩
      case round =>
        obtain ⟨m, hm, rfl⟩ := hrel
        by_cases hm0 : 0 < m
        · obtain ⟨m, rfl⟩ : ∃ k, m = k + 1 := ⟨m - 1, by omega⟩
          have hz1 := lead_size R (m + 1)
          obtain ⟨c, r, hcr, _⟩ := HLS.out
          have hRp : 1 ≤ R.length := by rw [hcr]; simp
          have HC := Lib.hid (lead_cut R m)
          have HZ2 := Lib.hid (lead_size R m)
          have hl := lead_first R m
          generalize str (List.replicate (m + 1) 48 ++ R) = x at hz1 HC hl ⊢
          have hx0 : ∀ h, (x[0]'h).toNat = 48 := fun h => by rw [hl h]; rfl
          have hsz : 2 ≤ x.size := by omega
          have hsz2 : x.size ≤ 200 := by omega
          have HZ1 := Lib.hid hz1
          clear hl hz1 hcr
          go_wp2_with fail
          go_round
          case rel => exact ⟨m, by omega, congrArg Value.string HC.out⟩
          case measure => show ByteArray.size _ < x.size; rw [HC.out, HZ2.out, HZ1.out]; omega
        · obtain rfl : m = 0 := by omega
          rw [show List.replicate 0 (48 : UInt8) ++ R = R from rfl]
          obtain ⟨c, r, hcr, hst⟩ := HLS.out
          have hz1 : (str R).size = r.length + 1 := by rw [strlen, hcr]; rfl
          have hc := fun h => head_of hcr h
          generalize hx : str R = x at hz1 hc ⊢
          have HX := Lib.hid hx
          clear hx
          by_cases hone : r = []
          · have hsz : x.size ≤ 1 := by rw [hz1, hone]; simp
            clear hz1 hc hcr hst hone
            go_wp2_with fail
            go_meet
            case rel => exact ⟨congrArg Value.string HX.out.symm, rfl⟩
          · have hcn : c.toNat ≠ 48 := fun e => (hst.resolve_left hone) (UInt8.toNat_inj.1 e)
            have hcl : c.toNat < 256 := UInt8.toNat_lt _
            have hrp : 1 ≤ r.length := List.length_pos_iff.2 hone
            have hsz : 2 ≤ x.size := by omega
            have hsz2 : x.size ≤ 200 := by have : R.length = r.length + 1 := by rw [hcr]; rfl
                                           omega
            have q : ((c.toNat : Int) == 48) = false := by rw [beq_eq_false_iff_ne]; omega
            have hx0 : ∀ h, (x[0]'h).toNat = c.toNat := fun h => by rw [hc h]
            clear hz1 hc hcr hst hone
            go_wp2_with fail
            go_meet
            case rel => exact ⟨congrArg Value.string HX.out.symm, rfl⟩
    case rest =>
    obtain ⟨rfl, rfl⟩ := hcut
    clear HLSP HLS
    go_upto_block 2 with fail
    go_cut [10, 11] from 14 (fun y y2 wx => y = .string (str T) ∧ y2 = .int .i64 (-(fl : Int) + (M' : Int)) ∧ wx = wc)
    case first =>
      rw [HTSP.out]
      go_wp2_with fail
      go_loop [10, 11] (fun y y2 => ∃ m : Nat, m ≤ M' ∧ y = .string (str (T ++ List.replicate m 48)) ∧ y2 = .int .i64 (-(fl : Int) + ((M' - m : Nat) : Int))) (fun y _ => (match y with | .string x => x.size | _ => 0))
      case atStart => exact ⟨M', Nat.le_refl _, rfl, by simp⟩
      case round =>
        obtain ⟨m, hm, rfl, rfl⟩ := hrel
        obtain ⟨c, r, hcr, hst⟩ := HTS.out
        have hTp : 1 ≤ T.length := by rw [hcr]; simp
        by_cases hm0 : 0 < m
        · obtain ⟨m, rfl⟩ : ∃ k, m = k + 1 := ⟨m - 1, by omega⟩
          have hz1 := tail_size2 T (m + 1)
          have HC := Lib.hid (tail_cut2 T m)
          have HZ2 := Lib.hid (tail_size2 T m)
          have hl := tail_last2 T m
          generalize str (T ++ List.replicate (m + 1) 48) = x at hz1 HC hl ⊢
          have hx0 : ∀ h, (x[x.size - 1]'h).toNat = 48 := by
            intro h
            have e1 : x.size - 1 = T.length + m := by omega
            simp only [e1]
            rw [hl (by omega)]
            rfl
          have hx2 : x.extract 0 (x.size - 1) = str (T ++ List.replicate m 48) := by
            rw [show x.size - 1 = T.length + m by omega]
            exact HC.out
          have HX2 := Lib.hid hx2
          have hsz : 2 ≤ x.size := by omega
          have hsz2 : x.size ≤ 200 := by omega
          have HZ1 := Lib.hid hz1
          clear hl hz1 hcr hst hx2 HC
          go_wp2_with fail
          go_round
          case rel => exact ⟨m, by omega, congrArg Value.string HX2.out, by go_num⟩
          case measure => show ByteArray.size _ < x.size; rw [HX2.out, HZ2.out, HZ1.out]; omega
        · obtain rfl : m = 0 := by omega
          rw [show T ++ List.replicate 0 (48 : UInt8) = T by simp]
          have hz1 : (str T).size = r.length + 1 := by rw [strlen, hcr]; simp
          have hTr : T.length = r.length + 1 := by rw [hcr]; simp
          have hc := fun h => last_of2 hcr h
          generalize hx : str T = x at hz1 hc ⊢
          have HX := Lib.hid hx
          clear hx
          have HE : Hid (-(fl : Int) + ((M' - 0 : Nat) : Int) = -(fl : Int) + (M' : Int)) := Lib.hid (by simp)
          by_cases hone : r = []
          · have hsz : x.size ≤ 1 := by rw [hz1, hone]; simp
            clear hz1 hc hcr hst hone hTr
            go_wp2_with fail
            go_meet
            case rel => exact ⟨congrArg Value.string HX.out.symm, congrArg (Value.int .i64) HE.out, rfl⟩
          · have hcn : c.toNat ≠ 48 := fun e => (hst.resolve_left hone) (UInt8.toNat_inj.1 e)
            have hrp : 1 ≤ r.length := List.length_pos_iff.2 hone
            have hsz : 2 ≤ x.size := by omega
            have hsz2 : x.size ≤ 200 := by omega
            have q : ((c.toNat : Int) == 48) = false := by rw [beq_eq_false_iff_ne]; omega
            have hx0 : ∀ h, (x[x.size - 1]'h).toNat = c.toNat := by
              intro h
              have e1 : x.size - 1 = r.length := by omega
              simp only [e1]
              rw [hc (by omega)]
            clear hz1 hc hcr hst hone hTr
            go_wp2_with fail
            go_meet
            case rel => exact ⟨congrArg Value.string HX.out.symm, congrArg (Value.int .i64) HE.out, rfl⟩
    case rest =>
    obtain ⟨rfl, rfl, rfl⟩ := hcut
    clear HTSP HTS
    have HSZT : Hid ((str T).size = T.length) := Lib.hid (strlen T)
    have hsT : (str T).size ≤ 61 := by rw [strlen]; exact hTl2
    have hBc := HB0
    by_cases h18 : 18 < T.length
    · have HM2 := Lib.hid (HMANY.out h18)
      have hq18 : (18 : Int) < ((str T).size : Int) := by rw [strlen]; omega
      unfold RetN V.agg at HM2
      generalize str T = x at hsT hq18 HSZT HVAL HMONO HDIG ⊢
      clear HMANY HFEW h18 HVAL HMONO HTD HDIG
      go_wp2_with fail
      refine (HM2.out _).mono ?_
      rintro r w2 ⟨rfl, hb2⟩
      have B2 := hBc.out.below hb2 hBc.out.lt
      have b2 := Hb0.out.trans (hb2.mono Hb0.out.size)
      obtain ⟨q0, q1, q2, q3, q4⟩ := B2.five
      have f0 := B2.frozen 0
      have f1 := B2.frozen 1
      have f2 := B2.frozen 2
      have f3 := B2.frozen 3
      have f4 := B2.frozen 4
      have HB2 := Lib.hid b2
      clear hb2 B2 b2
      go_wp2_with fail
      refine bodyPost_ret (v := .tuple #[.agg #[.int .i64 v.k, .int .i64 v.n, .int .i64 v.e, .string v.s, .slice none v.kids.length 0], .int .i64 z]) (by simp [results, Tryd.results22, go_sem, q0, q1, q2, q3, q4]) rfl ⟨rfl, ?_⟩
      repeat (first | exact HB2.out | (refine Below.setCell ?_ (by simp) _))
    · have HF2 := Lib.hid (HFEW.out (by omega))
      have hq18 : ¬ (18 : Int) < ((str T).size : Int) := by rw [strlen]; omega
      have hTl18 : T.length ≤ 18 := by omega
      unfold RetN V.agg at HF2
      have hdT : dval T < 1000000000000000000 := by
        have h10 : 10 ^ T.length ≤ 10 ^ 18 := Nat.pow_le_pow_right (by omega) hTl18
        have := HTD.out
        omega
      have HTK : Hid (T.take T.length = T) := Lib.hid List.take_length
      generalize str T = x at hsT hq18 HSZT HVAL HMONO HDIG ⊢
      clear HMANY HFEW h18 HTD
      go_upto_block 4 with fail
      go_cut [12, 13] from 14 (fun y y2 wx => y = .int .i64 (dval T : Nat) ∧ wx = wc)
      case first =>
        go_wp2_with fail
        go_loop [12, 13] (fun y y2 => ∃ k : Nat, k ≤ x.size ∧ y2 = .int .i64 k ∧ y = .int .i64 (dval (T.take k) : Nat)) (fun _ y2 => x.size - (intOf y2).toNat)
        case atStart => exact ⟨0, Nat.zero_le _, rfl, rfl⟩
        case round =>
          obtain ⟨k, hk, rfl, rfl⟩ := hrel
          by_cases hlt : k < x.size
          · have hu2 : x[k].toNat < 256 := UInt8.toNat_lt _
            have HV1 := Lib.hid (HVAL.out k hlt)
            have hmo := HMONO.out k hlt
            have hdk : 48 ≤ x[k].toNat := HDIG.out k hlt
            obtain ⟨n, hn⟩ : ∃ n, dval (T.take k) = n := ⟨_, rfl⟩
            rw [hn] at HV1 hmo ⊢
            clear hn
            have hn1 : n < 1000000000000000000 := by omega
            go_wp2_with fail
            go_round
            case rel => exact ⟨k + 1, by omega, by go_num, by rw [HV1.out]; go_num⟩
            case measure => simp [intOf]; omega
          · obtain rfl : k = x.size := by omega
            have e : T.take x.size = T := by rw [HSZT.out]; exact HTK.out
            rw [e]
            go_wp2_with fail
            go_meet
            case rel => exact ⟨rfl, rfl⟩
      case rest =>
      obtain ⟨rfl, rfl⟩ := hcut
      clear HVAL HMONO HDIG
      obtain ⟨dv, hdv⟩ : ∃ dv, dval T = dv := ⟨_, rfl⟩
      rw [hdv] at HF2 hdT ⊢
      clear hdv
      go_upto_if 120 with fail
      go_cut [12] from 14 (fun y wx => y = .int .i64 (sgnV (decide (i < f)) dv) ∧ wx = wc)
      case first =>
        by_cases hif : i < f
        · have hif' : (i : Int) < (f : Int) := by omega
          have HIF := Lib.hid (decide_eq_true hif)
          clear hif
          go_wp2_with fail
          go_meet
          case rel => exact ⟨by unfold sgnV; rw [HIF.out, if_pos rfl], rfl⟩
        · have hif' : ¬ (i : Int) < (f : Int) := by omega
          have HIF := Lib.hid (decide_eq_false hif)
          clear hif
          go_wp2_with fail
          go_meet
          case rel => exact ⟨by unfold sgnV; rw [HIF.out, if_neg (by simp)], rfl⟩
      case rest =>
      obtain ⟨rfl, rfl⟩ := hcut
      have hsr := (sgnV_range (neg := decide (i < f)) (m := dv) (by omega)).2
      obtain ⟨sv, hsv⟩ : ∃ sv, sgnV (decide (i < f)) dv = sv := ⟨_, rfl⟩
      rw [hsv] at HF2 hsr ⊢
      clear hsv
      have hxp2 := HXP.out
      go_wp2_with fail
      try rw [hxp2]
      refine (HPOW.out _).mono ?_
      rintro r w2 ⟨rfl, rfl⟩
      go_wp2_with fail
      refine (HF2.out _).mono ?_
      rintro r w3 ⟨rfl, hb2⟩
      have B2 := hBc.out.below hb2 hBc.out.lt
      have b2 := Hb0.out.trans (hb2.mono Hb0.out.size)
      obtain ⟨q0, q1, q2, q3, q4⟩ := B2.five
      have f0 := B2.frozen 0
      have f1 := B2.frozen 1
      have f2 := B2.frozen 2
      have f3 := B2.frozen 3
      have f4 := B2.frozen 4
      have HB2 := Lib.hid b2
      clear hb2 B2 b2
      go_wp2_with fail
      refine bodyPost_ret (v := .tuple #[.agg #[.int .i64 v.k, .int .i64 v.n, .int .i64 v.e, .string v.s, .slice none v.kids.length 0], .int .i64 z]) (by simp [results, Tryd.results22, go_sem, q0, q1, q2, q3, q4]) rfl ⟨rfl, ?_⟩
      repeat (first | exact HB2.out | (refine Below.setCell ?_ (by simp) _))
end Go.Proofs.YtbflkcldjjpioaaDoor

/-
  The reference's ReadNum, everywhere.
-/
namespace Go.Proofs.YtbflkcldjjpioaaDoor
open Go.RowKit
set_option linter.unusedVariables false
set_option linter.unusedSimpArgs false
set_option maxRecDepth 100000

set_option maxHeartbeats 16000000 in
theorem specReadNum (s : ByteArray) (i : Int) (w : World) (hs : s.size ≤ 1048576) :
    Calls Tryd.prog 22 #[.string s, .int .i64 i] w (RetN (rdV (rnP s i)) (rdE (rnP s i)) w) := by
  have HB0 := Lib.hid (Blk.new w 34 #[.int .i64 0, .int .i64 0, .int .i64 0, .string ⟨#[]⟩, .slice none 0 0])
  have Hb0 : Hid (Below w.heap.size w (w.alloc (.cells #[.int .i64 0, .int .i64 0, .int .i64 0, .string ⟨#[]⟩, .slice none 0 0] 34))) := Lib.hid ((Below.refl _ w).alloc (Nat.le_refl _) _)
  obtain ⟨w0, hw0⟩ : ∃ w0, w.alloc (.cells #[.int .i64 0, .int .i64 0, .int .i64 0, .string ⟨#[]⟩, .slice none 0 0] 34) = w0 := ⟨_, rfl⟩
  rw [hw0] at HB0 Hb0
  have HW0 := Lib.hid hw0
  obtain ⟨q0, q1, q2, q3, q4⟩ := HB0.out.five
  have f0 := HB0.out.frozen 0
  have f1 := HB0.out.frozen 1
  have f2 := HB0.out.frozen 2
  have f3 := HB0.out.frozen 3
  have f4 := HB0.out.frozen 4
  clear hw0
  by_cases hin : 0 ≤ i ∧ i < s.size
  · obtain ⟨i, rfl⟩ := Int.eq_ofNat_of_zero_le hin.1
    have hi : i < s.size := by omega
    by_cases hr : runN s (fAt s i) = fAt s i
    · rw [rnP_no hr]
      have hfl := fAt_le hi
      obtain ⟨f, hf⟩ : ∃ f, fAt s i = f := ⟨_, rfl⟩
      have HF : Hid (f = if s[i].toNat = 45 then i + 1 else i) := Lib.hid (by rw [← hf]; unfold fAt; rw [ge_idx hi])
      rw [hf] at hr hfl
      have HENDS := Lib.hid (fun W => specEnds_no s f W hs hfl.2.2 hr)
      have hu : s[i].toNat < 256 := UInt8.toNat_lt _
      clear hf hr hin
      go_enter Tryd.func22, Tryd.ntmps22
      go_upto_if 27 with fail
      rw [HW0.out]
      go_cut [6] from 14 (fun y wx => y = .int .i64 f ∧ wx = w0)
      case first =>
        by_cases h45 : s[i].toNat = 45
        · have q : ((s[i].toNat : Int) == 45) = true := by rw [h45]; rfl
          have HA := Lib.hid (HF.out.trans (if_pos h45))
          clear h45
          go_wp2_with fail
          go_meet
          case rel => exact ⟨by rw [HA.out]; go_num, rfl⟩
        · have q : ((s[i].toNat : Int) == 45) = false := by rw [beq_eq_false_iff_ne]; omega
          have HA := Lib.hid (HF.out.trans (if_neg h45))
          clear h45
          go_wp2_with fail
          go_meet
          case rel => exact ⟨by rw [HA.out], rfl⟩
      case rest =>
        obtain ⟨rfl, rfl⟩ := hcut
        go_wp2_with fail
        refine (HENDS.out _).mono ?_
        rintro e w1 ⟨rfl, rfl⟩
        go_wp2_with fail
        refine bodyPost_ret (v := .tuple #[.agg #[.int .i64 0, .int .i64 0, .int .i64 0, .string ⟨#[]⟩, .slice none 0 0], .int .i64 (-1)]) (by simp [results, Tryd.results22, go_sem, q0, q1, q2, q3, q4]) rfl ⟨rfl, ?_⟩
        repeat (first | exact Hb0.out | (refine Below.setCell ?_ (by simp) _))
    · exact specReadNum_in s i w hs hi hr
  · rw [rnP_out hin]
    rcases (show i < 0 ∨ (¬ i < 0 ∧ (s.size : Int) ≤ i) by omega) with h | ⟨h, h2⟩
    · clear hin
      go_enter Tryd.func22, Tryd.ntmps22
      go_upto_region 2 with fail
      rw [HW0.out]
      go_wp2_with fail
      refine bodyPost_ret (v := .tuple #[.agg #[.int .i64 0, .int .i64 0, .int .i64 0, .string ⟨#[]⟩, .slice none 0 0], .int .i64 (-1)]) (by simp [results, Tryd.results22, go_sem, q0, q1, q2, q3, q4]) rfl ⟨rfl, ?_⟩
      repeat (first | exact Hb0.out | (refine Below.setCell ?_ (by simp) _))
    · clear hin
      go_enter Tryd.func22, Tryd.ntmps22
      go_upto_region 2 with fail
      rw [HW0.out]
      go_wp2_with fail
      refine bodyPost_ret (v := .tuple #[.agg #[.int .i64 0, .int .i64 0, .int .i64 0, .string ⟨#[]⟩, .slice none 0 0], .int .i64 (-1)]) (by simp [results, Tryd.results22, go_sem, q0, q1, q2, q3, q4]) rfl ⟨rfl, ?_⟩
      repeat (first | exact Hb0.out | (refine Below.setCell ?_ (by simp) _))
end Go.Proofs.YtbflkcldjjpioaaDoor

/-
  ReadNum, plainly: the program's way.
-/
namespace Go.Proofs.YtbflkcldjjpioaaDoor
open Go.RowKit
set_option linter.unusedVariables false
set_option linter.unusedSimpArgs false

theorem piece_join {s : ByteArray} {i j k : Nat} (h1 : i ≤ j) (h2 : j ≤ k) : piece s i (k - i) = piece s i (j - i) ++ piece s j (k - j) := by
  unfold piece
  rw [show k - i = (j - i) + (k - j) by omega, List.take_add, List.drop_drop, show i + (j - i) = j by omega]
theorem exp_shape {s : ByteArray} {b d : Nat} (hb : b ≤ s.size) (hd : expN s b = d) (hlt : b < d) : ∃ x sg DD, ExpOf (piece s b (d - b)) x sg DD := by
  have hx : b < s.size ∧ ((s.get! b).toNat = 101 ∨ (s.get! b).toNat = 69) ∧ expK s b < runN s (expK s b) := by
    refine Classical.byContradiction fun hn => ?_
    unfold expN at hd
    rw [if_neg hn] at hd
    omega
  have hdr : d = runN s (expK s b) := by
    rw [← hd]; unfold expN; rw [if_pos hx]
  have hk := expK_le hx.1
  have hr := runN_ge (s := s) (i := expK s b) hk.2.1
  refine ⟨s.get! b, piece s (b + 1) (expK s b - (b + 1)), piece s (expK s b) (d - expK s b), ?_, hx.2.1, ?_, ?_, ?_⟩
  · rw [show d - b = (d - (b + 1)) + 1 by omega, piece_cons hx.1, piece_join (s := s) (i := b + 1) (j := expK s b) (k := d) (by omega) (by omega)]
  · by_cases h : b + 1 < s.size ∧ ((s.get! (b + 1)).toNat = 43 ∨ (s.get! (b + 1)).toNat = 45)
    · have e : expK s b = b + 2 := if_pos h
      rw [e, show b + 2 - (b + 1) = 0 + 1 by omega, piece_cons h.1, piece_zero]
      rcases h.2 with h2 | h2
      · right; left
        rw [show s.get! (b + 1) = 43 from UInt8.toNat_inj.1 h2]
      · right; right
        rw [show s.get! (b + 1) = 45 from UInt8.toNat_inj.1 h2]
    · have e : expK s b = b + 1 := if_neg h
      rw [e, Nat.sub_self, piece_zero]
      exact .inl rfl
  · intro h
    have := congrArg List.length h
    rw [piece_len _ _ _ (by omega)] at this
    simp only [List.length_nil] at this
    omega
  · exact piece_dig hk.2.1 _ (by omega)
/-- The program's exponent. -/
def ExpIs (l : List UInt8) (ex : Int) : Prop := (l = [] ∧ ex = 0) ∨ ∃ x sg DD, ExpOf l x sg DD ∧ ex = expI sg DD
theorem expIs_range {l : List UInt8} {ex : Int} (h : ExpIs l ex) : -100000 ≤ ex ∧ ex ≤ 100000 := by
  rcases h with ⟨_, rfl⟩ | ⟨x, sg, DD, h, rfl⟩
  · omega
  · have := (pow_close h).2; omega
theorem numG_impl {neg : Bool} {D l : List UInt8} {ex : Int} {fl : Nat} (h : ExpIs l ex) (hD : D.length ≤ 100) (hfl : fl ≤ 100) :
    numG neg D (powS l - (fl : Int)) = if 18 < (numT D).length then none else normR (sgnV neg (dval (numT D))) (ex - (fl : Int) + ((dropZ D).length : Int) - ((numT D).length : Int)) := by
  have h1 := dropZ_len D
  have h2 : (numT D).length ≤ (dropZ D).length := cutZ_len _
  unfold numG
  split
  · rfl
  · have e1 : powS l - (fl : Int) + (((dropZ D).length - (numT D).length : Nat) : Int) = powS l - (fl : Int) + ((dropZ D).length : Int) - ((numT D).length : Int) := by omega
    rw [e1]
    rcases h with ⟨rfl, rfl⟩ | ⟨x, sg, DD, h, rfl⟩
    · rw [powS_nil]
    · have hc := pow_close h
      rcases hc.1 with he | ⟨ha, hb⟩
      · rw [he]
      · rw [normR_out (by omega), normR_out (by omega)]
theorem cut_sign {s : ByteArray} {i a : Nat} (hi : i < s.size) (ha : i < a) (hfa : fAt s i ≤ a) : Lib.trimPrefix (piece s i (a - i)) [45] = piece s (fAt s i) (a - fAt s i) ∧ Lib.hasPrefix (piece s i (a - i)) [45] = decide (i < fAt s i) := by
  obtain ⟨m, hm⟩ : ∃ m, a - i = m + 1 := ⟨a - i - 1, by omega⟩
  rw [hm, piece_cons hi]
  by_cases h : (s.get! i).toNat = 45
  · have e : fAt s i = i + 1 := if_pos h
    have e2 : s.get! i = 45 := UInt8.toNat_inj.1 h
    rw [e, e2, show a - (i + 1) = m by omega]
    refine ⟨by simp [Lib.trimPrefix, Lib.hasPrefix, List.isPrefixOf], by simp [Lib.hasPrefix, List.isPrefixOf]⟩
  · have e : fAt s i = i := if_neg h
    have e2 : ¬ (45 : UInt8) = s.get! i := fun h2 => h (by rw [← h2]; rfl)
    rw [e, hm, piece_cons hi]
    refine ⟨by simp [Lib.trimPrefix, Lib.hasPrefix, List.isPrefixOf, e2], by simp [Lib.hasPrefix, List.isPrefixOf, e2]⟩
theorem cut_point {s : ByteArray} {a b : Nat} (ha : a ≤ s.size) (hb : fracN s a = b) : Lib.trimPrefix (piece s a (b - a)) [46] = if a < b then piece s (a + 1) (b - (a + 1)) else [] := by
  by_cases h : a < b
  · have hfr : a < s.size ∧ (s.get! a).toNat = 46 ∧ a + 1 < runN s (a + 1) := by
      refine Classical.byContradiction fun hn => ?_
      unfold fracN at hb
      rw [if_neg hn] at hb
      omega
    obtain ⟨m, hm⟩ : ∃ m, b - a = m + 1 := ⟨b - a - 1, by omega⟩
    have e2 : s.get! a = 46 := UInt8.toNat_inj.1 hfr.2.1
    rw [if_pos h, hm, piece_cons hfr.1, e2, show b - (a + 1) = m by omega]
    simp [Lib.trimPrefix, Lib.hasPrefix, List.isPrefixOf]
  · rw [if_neg h]
    have : b - a = 0 := by omega
    rw [this, piece_zero]
    simp [Lib.trimPrefix, Lib.hasPrefix, List.isPrefixOf]
theorem rnO_none {s : ByteArray} {i f a b d : Nat} (h60 : ¬ 60 < d - i) (h : readZ (s.extract i d) = none) : rnO s i f a b d = numG (decide (i < f)) (dgs s f a b) (powS (piece s b (d - b)) - ((b - (a + 1) : Nat) : Int)) := by
  unfold rnO
  rw [if_neg h60, h]
  rfl
theorem rnO_some {s : ByteArray} {i f a b d : Nat} {n : Int} (h60 : ¬ 60 < d - i) (h : readZ (s.extract i d) = some n) : rnO s i f a b d = some (V.int n) := by
  unfold rnO
  rw [if_neg h60, h]
end Go.Proofs.YtbflkcldjjpioaaDoor

/-
  The program's runs of digits, and where a number's parts end.
-/
namespace Go.Proofs.YtbflkcldjjpioaaDoor
open Go.RowKit
set_option linter.unusedVariables false
set_option linter.unusedSimpArgs false
set_option maxRecDepth 100000

theorem dig_casesI (c : Nat) : (48 ≤ c ∧ c ≤ 57) ∨ c < 48 ∨ 57 < c := by omega
theorem ge_idxI {s : ByteArray} {j : Nat} (h : j < s.size) : s.get! j = s[j] := (get_get! s j h).symm
set_option maxHeartbeats 2000000 in
theorem implRun (s : ByteArray) (i : Nat) (w : World) (hs : s.size ≤ 1048576) (hi : i ≤ s.size) :
    Calls Tryd.prog 72 #[.string s, .int .i64 i] w fun e w' => e = .returned (.int .i64 (runN s i)) ∧ w' = w := by
  go_enter Tryd.func72, Tryd.ntmps72
  go_wp2_with fail
  go_loop [1] (fun k => ∃ j : Nat, j ≤ s.size ∧ k = .int .i64 j ∧ runN s j = runN s i) (fun k => s.size - (intOf k).toNat)
  case atStart => exact ⟨i, hi, rfl, rfl⟩
  case round =>
    obtain ⟨j, hj, rfl, hr⟩ := hrel
    have HR := Lib.hid hr
    clear hr
    by_cases hlt : j < s.size
    · have hu : s[j].toNat < 256 := UInt8.toNat_lt _
      rcases dig_casesI s[j].toNat with ⟨h1, h2⟩ | h | h
      · have HN := Lib.hid (runN_step (s := s) hlt (by rw [ge_idxI hlt]; exact ⟨h1, h2⟩))
        have q1 : decide ((48 : Int) ≤ (s[j].toNat : Int)) = true := decide_eq_true (by omega)
        have q2 : decide ((s[j].toNat : Int) ≤ 57) = true := decide_eq_true (by omega)
        clear h1 h2
        go_wp2_with fail
        go_round
        case rel => exact ⟨j + 1, by omega, by go_num, by rw [← HN.out]; exact HR.out⟩
        case measure => simp [intOf]; omega
      · have HN := Lib.hid (runN_stop (s := s) (i := j) (fun hd => by rw [ge_idxI hlt] at hd; have := hd.2.1; omega))
        have q1 : decide ((48 : Int) ≤ (s[j].toNat : Int)) = false := decide_eq_false (by omega)
        clear h
        go_wp2_with fail
        go_ret
        exact ⟨ret_num (by rw [← HR.out, HN.out]), rfl⟩
      · have HN := Lib.hid (runN_stop (s := s) (i := j) (fun hd => by rw [ge_idxI hlt] at hd; have := hd.2.2; omega))
        have q1 : decide ((48 : Int) ≤ (s[j].toNat : Int)) = true := decide_eq_true (by omega)
        have q2 : decide ((s[j].toNat : Int) ≤ 57) = false := decide_eq_false (by omega)
        clear h
        go_wp2_with fail
        go_ret
        exact ⟨ret_num (by rw [← HR.out, HN.out]), rfl⟩
    · have HN := Lib.hid (runN_stop (s := s) (i := j) (fun hd => hlt hd.1))
      go_wp2_with fail
      go_ret
      exact ⟨ret_num (by rw [← HR.out, HN.out]), rfl⟩
theorem implRunZ (s : ByteArray) (z : Int) (j : Nat) (hz : z = (j : Int)) (w : World) (hs : s.size ≤ 1048576) (hj : j ≤ s.size) :
    Calls Tryd.prog 72 #[.string s, .int .i64 z] w fun e w' => e = .returned (.int .i64 (runN s j)) ∧ w' = w := by
  subst hz; exact implRun s j w hs hj
theorem tup3I {a a' b b' c c' : Int} (h1 : a = a') (h2 : b = b') (h3 : c = c') : Ending.returned (.tuple #[.int .i64 a, .int .i64 b, .int .i64 c]) = Ending.returned (.tuple #[.int .i64 a', .int .i64 b', .int .i64 c']) := by rw [h1, h2, h3]
set_option maxHeartbeats 2000000 in
theorem implFrac (s : ByteArray) (a : Nat) (w : World) (hs : s.size ≤ 1048576) (ha : a ≤ s.size) :
    Calls Tryd.prog 73 #[.string s, .int .i64 a] w fun e w' => e = .returned (.int .i64 (fracN s a)) ∧ w' = w := by
  have HF : Hid (fracN s a = if a < s.size ∧ (s.get! a).toNat = 46 ∧ a + 1 < runN s (a + 1) then runN s (a + 1) else a) := Lib.hid rfl
  by_cases h1 : a < s.size
  · have hua : s[a].toNat < 256 := UInt8.toNat_lt _
    rw [ge_idxI h1] at HF
    by_cases h2 : s[a].toNat = 46
    · have q : ((s[a].toNat : Int) == 46) = true := by rw [h2]; rfl
      have HR := Lib.hid (implRunZ s ((a : Int) + 1) (a + 1) (by omega) w hs (by omega))
      have hra := runN_ge (s := s) (i := a + 1) (by omega)
      by_cases h3 : a + 1 < runN s (a + 1)
      · have HB := Lib.hid (HF.out.trans (if_pos ⟨h1, h2, h3⟩))
        have q3 : (a : Int) + 1 < (runN s (a + 1) : Int) := by omega
        obtain ⟨r, hr⟩ : ∃ r, runN s (a + 1) = r := ⟨_, rfl⟩
        rw [hr] at HR HB q3 hra
        clear hr h2 HF h3
        go_enter Tryd.func73, Tryd.ntmps73
        go_wp2_with fail
        refine HR.out.mono ?_
        rintro e w2 ⟨rfl, rfl⟩
        go_wp2_with fail
        go_ret
        exact ⟨ret_num (by rw [HB.out]), rfl⟩
      · have HB := Lib.hid (HF.out.trans (if_neg (fun h => h3 h.2.2)))
        have q3 : ¬ (a : Int) + 1 < (runN s (a + 1) : Int) := by omega
        obtain ⟨r, hr⟩ : ∃ r, runN s (a + 1) = r := ⟨_, rfl⟩
        rw [hr] at HR q3 hra
        clear hr h2 HF h3
        go_enter Tryd.func73, Tryd.ntmps73
        go_wp2_with fail
        refine HR.out.mono ?_
        rintro e w2 ⟨rfl, rfl⟩
        go_wp2_with fail
        go_ret
        exact ⟨ret_num (by rw [HB.out]), rfl⟩
    · have q : ((s[a].toNat : Int) == 46) = false := by rw [beq_eq_false_iff_ne]; omega
      have HB := Lib.hid (HF.out.trans (if_neg (fun h => h2 h.2.1)))
      clear h2 HF
      go_enter Tryd.func73, Tryd.ntmps73
      go_wp2_with fail
      go_ret
      exact ⟨ret_num (by rw [HB.out]), rfl⟩
  · have HB := Lib.hid (HF.out.trans (if_neg (fun h => h1 h.1)))
    clear HF
    go_enter Tryd.func73, Tryd.ntmps73
    go_wp2_with fail
    go_ret
    exact ⟨ret_num (by rw [HB.out]), rfl⟩
set_option maxHeartbeats 8000000 in
theorem implExp (s : ByteArray) (b : Nat) (w : World) (hs : s.size ≤ 1048576) (hb : b ≤ s.size) :
    Calls Tryd.prog 74 #[.string s, .int .i64 b] w fun e w' => e = .returned (.int .i64 (expN s b)) ∧ w' = w := by
  have HD : Hid (expN s b = if b < s.size ∧ ((s.get! b).toNat = 101 ∨ (s.get! b).toNat = 69) ∧ expK s b < runN s (expK s b) then runN s (expK s b) else b) := Lib.hid rfl
  by_cases h1 : b < s.size
  · have hub0 : s[b].toNat < 256 := UInt8.toNat_lt _
    rcases (show s[b].toNat = 101 ∨ s[b].toNat = 69 ∨ (s[b].toNat ≠ 101 ∧ s[b].toNat ≠ 69) by omega) with h0 | h0 | ⟨h2, h3⟩
    · have q : ((s[b].toNat : Int) != 101) = false := by rw [h0]; rfl
      have h2 : (s.get! b).toNat = 101 ∨ (s.get! b).toNat = 69 := by rw [ge_idxI h1]; exact .inl h0
      have q9 : s[b].toNat ≤ 101 := by omega
      clear h0
      have HB : Hid (expN s b = if expK s b < runN s (expK s b) then runN s (expK s b) else b) := Lib.hid (by
        rw [HD.out]
        by_cases h3 : expK s b < runN s (expK s b)
        · rw [if_pos ⟨h1, h2, h3⟩, if_pos h3]
        · rw [if_neg (fun h4 => h3 h4.2.2), if_neg h3])
      have HKD : Hid (expK s b = if b + 1 < s.size ∧ ((s.get! (b + 1)).toNat = 43 ∨ (s.get! (b + 1)).toNat = 45) then b + 2 else b + 1) := Lib.hid rfl
      have hkl := expK_le h1
      obtain ⟨k, hk⟩ : ∃ k, expK s b = k := ⟨_, rfl⟩
      rw [hk] at HB HKD hkl
      have hrk := runN_ge (s := s) (i := k) (by omega)
      have HR := Lib.hid (implRun s k w hs (by omega))
      clear hk HD
      obtain ⟨r, hr⟩ : ∃ r, runN s k = r := ⟨_, rfl⟩
      rw [hr] at HB HR hrk
      clear hr h2
      obtain ⟨tk, htk⟩ : ∃ tk : Bool, decide (b + 1 < s.size ∧ ((s.get! (b + 1)).toNat = 43 ∨ (s.get! (b + 1)).toNat = 45)) = tk := ⟨_, rfl⟩
      have HTK := Lib.hid htk
      clear htk
      go_enter Tryd.func74, Tryd.ntmps74
      go_upto_region 4 with fail
      go_cut [41] from 7 (fun z wx => z = .bool tk ∧ wx = w)
      case first =>
        by_cases h1 : b + 1 < s.size
        · have hub : s[b + 1].toNat < 256 := UInt8.toNat_lt _
          have hi1 : (b : Int) + 1 < s.size := by omega
          rcases (show s[b + 1].toNat = 43 ∨ s[b + 1].toNat = 45 ∨ (s[b + 1].toNat ≠ 43 ∧ s[b + 1].toNat ≠ 45) by omega) with h2 | h2 | ⟨h2, h3⟩
          · have q : ((s[b + 1].toNat : Int) == 43) = true := by rw [h2]; rfl
            have HE : Hid (true = tk) := Lib.hid (by rw [← HTK.out, ge_idxI h1]; exact (decide_eq_true ⟨h1, .inl h2⟩).symm)
            clear h2
            go_wp2_with fail
            go_meet
            case rel => exact ⟨congrArg Value.bool HE.out, rfl⟩
          · have q : ((s[b + 1].toNat : Int) == 43) = false := by rw [h2]; rfl
            have q2 : ((s[b + 1].toNat : Int) == 45) = true := by rw [h2]; rfl
            have HE : Hid (true = tk) := Lib.hid (by rw [← HTK.out, ge_idxI h1]; exact (decide_eq_true ⟨h1, .inr h2⟩).symm)
            clear h2
            go_wp2_with fail
            go_meet
            case rel => exact ⟨congrArg Value.bool HE.out, rfl⟩
          · have q : ((s[b + 1].toNat : Int) == 43) = false := by rw [beq_eq_false_iff_ne]; omega
            have q2 : ((s[b + 1].toNat : Int) == 45) = false := by rw [beq_eq_false_iff_ne]; omega
            have HE : Hid (false = tk) := Lib.hid (by rw [← HTK.out, ge_idxI h1]; exact (decide_eq_false (fun h => h.2.elim h2 h3)).symm)
            clear h2 h3
            go_wp2_with fail
            go_meet
            case rel => exact ⟨congrArg Value.bool HE.out, rfl⟩
        · have hi1 : ¬ (b : Int) + 1 < s.size := by omega
          have HE : Hid (false = tk) := Lib.hid (by rw [← HTK.out]; exact (decide_eq_false (fun h => h1 h.1)).symm)
          go_wp2_with fail
          go_meet
          case rel => exact ⟨congrArg Value.bool HE.out, rfl⟩
      case rest =>
        obtain ⟨rfl, rfl⟩ := hcut
        go_upto_if 41 with fail
        go_cut [5] from 7 (fun z wx => z = .int .i64 k ∧ wx = wc)
        case first =>
          cases tk with
          | true =>
            have HK := Lib.hid (HKD.out.trans (if_pos (of_decide_eq_true HTK.out)))
            go_wp2_with fail
            go_meet
            case rel => exact ⟨by rw [HK.out]; go_num, rfl⟩
          | false =>
            have HK := Lib.hid (HKD.out.trans (if_neg (of_decide_eq_false HTK.out)))
            go_wp2_with fail
            go_meet
            case rel => exact ⟨by rw [HK.out]; go_num, rfl⟩
        case rest =>
          obtain ⟨rfl, rfl⟩ := hcut
          clear HKD HTK
          go_wp2_with fail
          refine HR.out.mono ?_
          rintro e w2 ⟨rfl, rfl⟩
          by_cases hkr : k < r
          · have HB2 := Lib.hid (HB.out.trans (if_pos hkr))
            have hkr' : (k : Int) < r := by omega
            clear hkr
            go_wp2_with fail
            go_ret
            exact ⟨ret_num (by rw [HB2.out]), rfl⟩
          · have HB2 := Lib.hid (HB.out.trans (if_neg hkr))
            have hkr' : ¬ (k : Int) < r := by omega
            clear hkr
            go_wp2_with fail
            go_ret
            exact ⟨ret_num (by rw [HB2.out]), rfl⟩
    · have q : ((s[b].toNat : Int) != 101) = true := by rw [h0]; rfl
      have q2 : ((s[b].toNat : Int) != 69) = false := by rw [h0]; rfl
      have h2 : (s.get! b).toNat = 101 ∨ (s.get! b).toNat = 69 := by rw [ge_idxI h1]; exact .inr h0
      clear h0
      have HB : Hid (expN s b = if expK s b < runN s (expK s b) then runN s (expK s b) else b) := Lib.hid (by
        rw [HD.out]
        by_cases h3 : expK s b < runN s (expK s b)
        · rw [if_pos ⟨h1, h2, h3⟩, if_pos h3]
        · rw [if_neg (fun h4 => h3 h4.2.2), if_neg h3])
      have HKD : Hid (expK s b = if b + 1 < s.size ∧ ((s.get! (b + 1)).toNat = 43 ∨ (s.get! (b + 1)).toNat = 45) then b + 2 else b + 1) := Lib.hid rfl
      have hkl := expK_le h1
      obtain ⟨k, hk⟩ : ∃ k, expK s b = k := ⟨_, rfl⟩
      rw [hk] at HB HKD hkl
      have hrk := runN_ge (s := s) (i := k) (by omega)
      have HR := Lib.hid (implRun s k w hs (by omega))
      clear hk HD
      obtain ⟨r, hr⟩ : ∃ r, runN s k = r := ⟨_, rfl⟩
      rw [hr] at HB HR hrk
      clear hr h2
      obtain ⟨tk, htk⟩ : ∃ tk : Bool, decide (b + 1 < s.size ∧ ((s.get! (b + 1)).toNat = 43 ∨ (s.get! (b + 1)).toNat = 45)) = tk := ⟨_, rfl⟩
      have HTK := Lib.hid htk
      clear htk
      go_enter Tryd.func74, Tryd.ntmps74
      go_upto_region 4 with fail
      go_cut [41] from 7 (fun z wx => z = .bool tk ∧ wx = w)
      case first =>
        by_cases h1 : b + 1 < s.size
        · have hub : s[b + 1].toNat < 256 := UInt8.toNat_lt _
          have hi1 : (b : Int) + 1 < s.size := by omega
          rcases (show s[b + 1].toNat = 43 ∨ s[b + 1].toNat = 45 ∨ (s[b + 1].toNat ≠ 43 ∧ s[b + 1].toNat ≠ 45) by omega) with h2 | h2 | ⟨h2, h3⟩
          · have q : ((s[b + 1].toNat : Int) == 43) = true := by rw [h2]; rfl
            have HE : Hid (true = tk) := Lib.hid (by rw [← HTK.out, ge_idxI h1]; exact (decide_eq_true ⟨h1, .inl h2⟩).symm)
            clear h2
            go_wp2_with fail
            go_meet
            case rel => exact ⟨congrArg Value.bool HE.out, rfl⟩
          · have q : ((s[b + 1].toNat : Int) == 43) = false := by rw [h2]; rfl
            have q2 : ((s[b + 1].toNat : Int) == 45) = true := by rw [h2]; rfl
            have HE : Hid (true = tk) := Lib.hid (by rw [← HTK.out, ge_idxI h1]; exact (decide_eq_true ⟨h1, .inr h2⟩).symm)
            clear h2
            go_wp2_with fail
            go_meet
            case rel => exact ⟨congrArg Value.bool HE.out, rfl⟩
          · have q : ((s[b + 1].toNat : Int) == 43) = false := by rw [beq_eq_false_iff_ne]; omega
            have q2 : ((s[b + 1].toNat : Int) == 45) = false := by rw [beq_eq_false_iff_ne]; omega
            have HE : Hid (false = tk) := Lib.hid (by rw [← HTK.out, ge_idxI h1]; exact (decide_eq_false (fun h => h.2.elim h2 h3)).symm)
            clear h2 h3
            go_wp2_with fail
            go_meet
            case rel => exact ⟨congrArg Value.bool HE.out, rfl⟩
        · have hi1 : ¬ (b : Int) + 1 < s.size := by omega
          have HE : Hid (false = tk) := Lib.hid (by rw [← HTK.out]; exact (decide_eq_false (fun h => h1 h.1)).symm)
          go_wp2_with fail
          go_meet
          case rel => exact ⟨congrArg Value.bool HE.out, rfl⟩
      case rest =>
        obtain ⟨rfl, rfl⟩ := hcut
        go_upto_if 41 with fail
        go_cut [5] from 7 (fun z wx => z = .int .i64 k ∧ wx = wc)
        case first =>
          cases tk with
          | true =>
            have HK := Lib.hid (HKD.out.trans (if_pos (of_decide_eq_true HTK.out)))
            go_wp2_with fail
            go_meet
            case rel => exact ⟨by rw [HK.out]; go_num, rfl⟩
          | false =>
            have HK := Lib.hid (HKD.out.trans (if_neg (of_decide_eq_false HTK.out)))
            go_wp2_with fail
            go_meet
            case rel => exact ⟨by rw [HK.out]; go_num, rfl⟩
        case rest =>
          obtain ⟨rfl, rfl⟩ := hcut
          clear HKD HTK
          go_wp2_with fail
          refine HR.out.mono ?_
          rintro e w2 ⟨rfl, rfl⟩
          by_cases hkr : k < r
          · have HB2 := Lib.hid (HB.out.trans (if_pos hkr))
            have hkr' : (k : Int) < r := by omega
            clear hkr
            go_wp2_with fail
            go_ret
            exact ⟨ret_num (by rw [HB2.out]), rfl⟩
          · have HB2 := Lib.hid (HB.out.trans (if_neg hkr))
            have hkr' : ¬ (k : Int) < r := by omega
            clear hkr
            go_wp2_with fail
            go_ret
            exact ⟨ret_num (by rw [HB2.out]), rfl⟩
    · have q : ((s[b].toNat : Int) != 101) = true := by simp; omega
      have q2 : ((s[b].toNat : Int) != 69) = true := by simp; omega
      have HB := Lib.hid (HD.out.trans (if_neg (fun h => by rw [ge_idxI h1] at h; exact h.2.1.elim h2 h3)))
      clear h2 h3 HD
      go_enter Tryd.func74, Tryd.ntmps74
      go_wp2_with fail
      go_ret
      exact ⟨ret_num (by rw [HB.out]), rfl⟩
  · have HB := Lib.hid (HD.out.trans (if_neg (fun h => h1 h.1)))
    clear HD
    go_enter Tryd.func74, Tryd.ntmps74
    go_wp2_with fail
    go_ret
    exact ⟨ret_num (by rw [HB.out]), rfl⟩
end Go.Proofs.YtbflkcldjjpioaaDoor

/-
  The program's parts of a number.
-/
namespace Go.Proofs.YtbflkcldjjpioaaDoor
open Go.RowKit
set_option linter.unusedVariables false
set_option linter.unusedSimpArgs false
set_option maxRecDepth 100000

/-- Where a number's digits begin, the end of the text taken in. -/
def fAtE (s : ByteArray) (i : Nat) : Nat := if i < s.size then fAt s i else i
theorem fAtE_lt {s : ByteArray} {i : Nat} (h : i < s.size) : fAtE s i = fAt s i := if_pos h
theorem fAtE_le {s : ByteArray} {i : Nat} (h : i ≤ s.size) : fAtE s i ≤ s.size := by
  unfold fAtE
  split
  · rename_i h2; exact (fAt_le h2).2.2
  · exact h
set_option maxHeartbeats 8000000 in
theorem implNumber (s : ByteArray) (i : Nat) (w : World) (hs : s.size ≤ 1048576) (hi : i ≤ s.size) :
    Calls Tryd.prog 47 #[.string s, .int .i64 i] w fun e w' => w' = w ∧
      (runN s (fAtE s i) = fAtE s i → e = .returned (.tuple #[.int .i64 (-1), .int .i64 (-1), .int .i64 (-1)])) ∧
      (runN s (fAtE s i) ≠ fAtE s i → e = .returned (.tuple #[.int .i64 (expN s (fracN s (wholeAt s (fAtE s i)))), .int .i64 (wholeAt s (fAtE s i)), .int .i64 (fracN s (wholeAt s (fAtE s i)))])) := by
  have hfl := fAtE_le hi
  have HK : Hid (fAtE s i = if i < s.size then (if (s.get! i).toNat = 45 then i + 1 else i) else i) := Lib.hid rfl
  obtain ⟨f, hf⟩ : ∃ f, fAtE s i = f := ⟨_, rfl⟩
  rw [hf] at HK hfl ⊢
  clear hf
  have hge := runN_ge hfl
  have HR := Lib.hid (implRun s f w hs hfl)
  by_cases hr : runN s f = f
  · have HQ := Lib.hid hr
    rw [hr] at HR
    clear hr
    go_enter Tryd.func47, Tryd.ntmps47
    go_upto_region 2 with fail
    go_cut [20] from 10 (fun z wx => z = .bool (decide (i < s.size ∧ (s.get! i).toNat = 45)) ∧ wx = w)
    case first =>
      by_cases h1 : i < s.size
      · have hu : s[i].toNat < 256 := UInt8.toNat_lt _
        by_cases h2 : s[i].toNat = 45
        · have q : ((s[i].toNat : Int) == 45) = true := by rw [h2]; rfl
          have HE : Hid (true = decide (i < s.size ∧ (s.get! i).toNat = 45)) := Lib.hid (by rw [ge_idxI h1]; exact (decide_eq_true ⟨h1, h2⟩).symm)
          clear h2
          go_wp2_with fail
          go_meet
          case rel => exact ⟨congrArg Value.bool HE.out, rfl⟩
        · have q : ((s[i].toNat : Int) == 45) = false := by rw [beq_eq_false_iff_ne]; omega
          have HE : Hid (false = decide (i < s.size ∧ (s.get! i).toNat = 45)) := Lib.hid (by rw [ge_idxI h1]; exact (decide_eq_false (fun h => h2 h.2)).symm)
          clear h2
          go_wp2_with fail
          go_meet
          case rel => exact ⟨congrArg Value.bool HE.out, rfl⟩
      · have HE : Hid (false = decide (i < s.size ∧ (s.get! i).toNat = 45)) := Lib.hid (decide_eq_false (fun h => h1 h.1)).symm
        go_wp2_with fail
        go_meet
        case rel => exact ⟨congrArg Value.bool HE.out, rfl⟩
    case rest =>
      obtain ⟨rfl, rfl⟩ := hcut
      obtain ⟨tb, htb⟩ : ∃ tb, decide (i < s.size ∧ (s.get! i).toNat = 45) = tb := ⟨_, rfl⟩
      have HT := Lib.hid htb
      rw [htb]
      clear htb
      go_upto_if 20 with fail
      go_cut [7] from 10 (fun z wx => z = .int .i64 f ∧ wx = wc)
      case first =>
        cases tb with
        | true =>
          have h := of_decide_eq_true HT.out
          have HF : Hid (f = i + 1) := Lib.hid (by rw [HK.out, if_pos h.1, if_pos h.2])
          clear h
          go_wp2_with fail
          go_meet
          case rel => exact ⟨by rw [HF.out]; go_num, rfl⟩
        | false =>
          have h := of_decide_eq_false HT.out
          have HF : Hid (f = i) := Lib.hid (by
            rw [HK.out]
            by_cases h1 : i < s.size
            · rw [if_pos h1, if_neg (fun h2 => h ⟨h1, h2⟩)]
            · rw [if_neg h1])
          clear h
          go_wp2_with fail
          go_meet
          case rel => exact ⟨by rw [HF.out], rfl⟩
      case rest =>
        obtain ⟨rfl, rfl⟩ := hcut
        go_wp2_with fail
        refine HR.out.mono ?_
        rintro e w2 ⟨rfl, rfl⟩
        go_wp2_with fail
        go_ret3
        exact ⟨rfl, fun _ => rfl, fun h => absurd HQ.out h⟩
  · have HQ := Lib.hid hr
    have hflt : f < s.size := Classical.byContradiction fun h => hr (runN_stop (fun h2 => h h2.1))
    have hal := wholeAt_le hfl hr
    have HW : Hid (wholeAt s f = if s[f].toNat = 48 then f + 1 else runN s f) := Lib.hid (by unfold wholeAt; rw [ge_idxI hflt])
    obtain ⟨a, ha⟩ : ∃ a, wholeAt s f = a := ⟨_, rfl⟩
    have hq : ((runN s f : Int) == (f : Int)) = false := by rw [beq_eq_false_iff_ne]; omega
    rw [ha] at HW hal ⊢
    have hbl := fracN_le hal.2.2
    have HFR := Lib.hid (implFrac s a w hs hal.2.2)
    obtain ⟨b, hb⟩ : ∃ b, fracN s a = b := ⟨_, rfl⟩
    rw [hb] at HFR hbl ⊢
    have HEX := Lib.hid (implExp s b w hs hbl.2)
    have hdl := expN_le hbl.2
    obtain ⟨d, hd⟩ : ∃ d, expN s b = d := ⟨_, rfl⟩
    rw [hd] at HEX hdl ⊢
    obtain ⟨r, hrr⟩ : ∃ r, runN s f = r := ⟨_, rfl⟩
    rw [hrr] at HW hq hge HR HQ ⊢
    clear hrr hr hd hb ha
    have hu : s[f].toNat < 256 := UInt8.toNat_lt _
    go_enter Tryd.func47, Tryd.ntmps47
    go_upto_region 2 with fail
    go_cut [20] from 10 (fun z wx => z = .bool (decide (i < s.size ∧ (s.get! i).toNat = 45)) ∧ wx = w)
    case first =>
      by_cases h1 : i < s.size
      · have hu : s[i].toNat < 256 := UInt8.toNat_lt _
        by_cases h2 : s[i].toNat = 45
        · have q : ((s[i].toNat : Int) == 45) = true := by rw [h2]; rfl
          have HE : Hid (true = decide (i < s.size ∧ (s.get! i).toNat = 45)) := Lib.hid (by rw [ge_idxI h1]; exact (decide_eq_true ⟨h1, h2⟩).symm)
          clear h2
          go_wp2_with fail
          go_meet
          case rel => exact ⟨congrArg Value.bool HE.out, rfl⟩
        · have q : ((s[i].toNat : Int) == 45) = false := by rw [beq_eq_false_iff_ne]; omega
          have HE : Hid (false = decide (i < s.size ∧ (s.get! i).toNat = 45)) := Lib.hid (by rw [ge_idxI h1]; exact (decide_eq_false (fun h => h2 h.2)).symm)
          clear h2
          go_wp2_with fail
          go_meet
          case rel => exact ⟨congrArg Value.bool HE.out, rfl⟩
      · have HE : Hid (false = decide (i < s.size ∧ (s.get! i).toNat = 45)) := Lib.hid (decide_eq_false (fun h => h1 h.1)).symm
        go_wp2_with fail
        go_meet
        case rel => exact ⟨congrArg Value.bool HE.out, rfl⟩
    case rest =>
      obtain ⟨rfl, rfl⟩ := hcut
      obtain ⟨tb, htb⟩ : ∃ tb, decide (i < s.size ∧ (s.get! i).toNat = 45) = tb := ⟨_, rfl⟩
      have HT := Lib.hid htb
      rw [htb]
      clear htb
      go_upto_if 20 with fail
      go_cut [7] from 10 (fun z wx => z = .int .i64 f ∧ wx = wc)
      case first =>
        cases tb with
        | true =>
          have h := of_decide_eq_true HT.out
          have HF : Hid (f = i + 1) := Lib.hid (by rw [HK.out, if_pos h.1, if_pos h.2])
          clear h
          go_wp2_with fail
          go_meet
          case rel => exact ⟨by rw [HF.out]; go_num, rfl⟩
        | false =>
          have h := of_decide_eq_false HT.out
          have HF : Hid (f = i) := Lib.hid (by
            rw [HK.out]
            by_cases h1 : i < s.size
            · rw [if_pos h1, if_neg (fun h2 => h ⟨h1, h2⟩)]
            · rw [if_neg h1])
          clear h
          go_wp2_with fail
          go_meet
          case rel => exact ⟨by rw [HF.out], rfl⟩
      case rest =>
        obtain ⟨rfl, rfl⟩ := hcut
        go_wp2_with fail
        refine HR.out.mono ?_
        rintro e w2 ⟨rfl, rfl⟩
        by_cases h48 : s[f].toNat = 48
        · have q : ((s[f].toNat : Int) == 48) = true := by rw [h48]; rfl
          have HA := Lib.hid (HW.out.trans (if_pos h48))
          have HFR2 := Lib.hid (show Calls Tryd.prog 73 #[.string s, .int .i64 ((f : Int) + 1)] w2 fun e w' => e = .returned (.int .i64 b) ∧ w' = w2 by have := HFR.out; rw [HA.out] at this; simpa using this)
          clear h48
          go_wp2_with fail
          refine HFR2.out.mono ?_
          rintro e w3 ⟨rfl, rfl⟩
          go_wp2_with fail
          refine HEX.out.mono ?_
          rintro e w4 ⟨rfl, rfl⟩
          go_wp2_with fail
          go_ret3
          exact ⟨rfl, fun h => absurd h HQ.out, fun _ => tup3I rfl (by rw [HA.out]; omega) rfl⟩
        · have q : ((s[f].toNat : Int) == 48) = false := by rw [beq_eq_false_iff_ne]; omega
          have HA := Lib.hid (HW.out.trans (if_neg h48))
          have HFR2 := Lib.hid (show Calls Tryd.prog 73 #[.string s, .int .i64 (r : Int)] w2 fun e w' => e = .returned (.int .i64 b) ∧ w' = w2 by have := HFR.out; rw [HA.out] at this; exact this)
          clear h48
          go_wp2_with fail
          refine HFR2.out.mono ?_
          rintro e w3 ⟨rfl, rfl⟩
          go_wp2_with fail
          refine HEX.out.mono ?_
          rintro e w4 ⟨rfl, rfl⟩
          go_wp2_with fail
          go_ret3
          exact ⟨rfl, fun h => absurd h HQ.out, fun _ => tup3I rfl (by rw [HA.out]) rfl⟩
end Go.Proofs.YtbflkcldjjpioaaDoor

/-
  Norm of the program.
-/
namespace Go.Proofs.YtbflkcldjjpioaaDoor
open Go.RowKit
set_option linter.unusedVariables false
set_option linter.unusedSimpArgs false
set_option maxRecDepth 100000

theorem tdiv_ten {n x : Int} {k : Nat} (h : n = x * 10 ^ k) (hm : Int.tmod x 10 = 0) : n = Int.tdiv x 10 * 10 ^ (k + 1) := by
  have h1 := Int.tmod_add_mul_tdiv x 10
  rw [Int.pow_succ, Int.mul_comm (10 ^ k) 10, ← Int.mul_assoc, h]
  congr 1
  omega
theorem inR_tdiv {x : Int} (h : inR x) : inR (Int.tdiv x 10) := by
  have h1 := Int.tmod_add_mul_tdiv x 10
  have h3 : -10 < Int.tmod x 10 ∧ Int.tmod x 10 < 10 := by
    constructor
    · have := Int.lt_tmod_of_pos x (show (0 : Int) < 10 by omega); omega
    · exact Int.tmod_lt_of_pos _ (by omega)
  unfold inR at *
  omega
theorem tdiv_small {x : Int} (hx : x ≠ 0) : (Int.tdiv x 10).natAbs < x.natAbs := by
  rw [Int.natAbs_tdiv]
  exact Nat.div_lt_self (by omega) (by decide)
theorem tdiv_ne {x : Int} (hx : x ≠ 0) (hm : Int.tmod x 10 = 0) : Int.tdiv x 10 ≠ 0 := by
  have h1 := Int.tmod_add_mul_tdiv x 10
  intro h
  rw [hm, h] at h1
  omega

set_option maxHeartbeats 8000000 in
theorem implNorm_out (n e : Int) (w : World) (he : ¬ (-1000 ≤ e ∧ e ≤ 1000)) : Calls Tryd.prog 53 #[.int .i64 n, .int .i64 e] w (NormRet n e w) := by
  have HN := Lib.hid (normR_out (n := n) he)
  rcases (show decide (-1000 ≤ e) = false ∨ (decide (-1000 ≤ e) = true ∧ decide (e ≤ 1000) = false) by
    by_cases h : -1000 ≤ e
    · exact .inr ⟨decide_eq_true h, decide_eq_false (fun h2 => he ⟨h, h2⟩)⟩
    · exact .inl (decide_eq_false h)) with hc | hc
  all_goals
    clear he
    go_enter Tryd.func53, Tryd.ntmps53
    go_wp2_with (go_at_call 46; go_in)
    refine bodyPost_ret (v := .tuple #[.agg #[.int .i64 0, .int .i64 0, .int .i64 0, .string ⟨#[]⟩, .slice none 0 0], .bool false]) (by simp [results, Tryd.results53, go_sem]) rfl (normRet_none HN.out rfl ?_)
    repeat (first | exact (Below.refl _ w).alloc (Nat.le_refl _) _ | (refine Below.setCell ?_ (by simp) _))

set_option maxHeartbeats 8000000 in
theorem implNorm_in (n e : Int) (w : World) (hn : inR n) (he : -1000 ≤ e ∧ e ≤ 1000) : Calls Tryd.prog 53 #[.int .i64 n, .int .i64 e] w (NormRet n e w) := by
  have hd1 : decide (-1000 ≤ e) = true := decide_eq_true he.1
  have hd2 : decide (e ≤ 1000) = true := decide_eq_true he.2
  obtain ⟨he1, he2⟩ := he
  have HN := Lib.hid hn
  clear hn
  go_enter Tryd.func53, Tryd.ntmps53
  go_wp2_with (go_at_call 46; go_in)
  obtain ⟨w0, hw0⟩ : ∃ w0, w0 = w.alloc (.cells #[.int .i64 0, .int .i64 0, .int .i64 0, .string ⟨#[]⟩, .slice none 0 0] 34) := ⟨_, rfl⟩
  have B0 : Blk w0 w.heap.size 34 #[.int .i64 0, .int .i64 0, .int .i64 0, .string ⟨#[]⟩, .slice none 0 0] := by rw [hw0]; exact Blk.new w _ _
  have b0 : Below w.heap.size w w0 := by rw [hw0]; exact (Below.refl _ w).alloc (Nat.le_refl _) _
  have z0 : w0.heap.size = w.heap.size + 1 := by rw [hw0]; simp
  rw [← hw0]
  have lv := B0.lt
  have HB0 := Lib.hid b0
  have HV0 := Lib.hid B0
  have HZ0 := Lib.hid z0
  clear hw0 B0 b0 z0
  go_loop [0, 1] (fun z y => ∃ (x : Int) (k : Nat), z = .int .i64 x ∧ y = .int .i64 (e + k) ∧ n = x * 10 ^ k ∧ inR x) (fun z _ => (intOf z).natAbs)
  case atStart => exact ⟨n, 0, rfl, by simp, by simp, HN.out⟩
  case round =>
    obtain ⟨x, k, rfl, rfl, hnx, hx⟩ := hrel
    have hxr := hx
    unfold inR at hxr
    have HX := Lib.hid hx
    have HNX := Lib.hid hnx
    obtain ⟨q0, q1, q2, q3, q4⟩ := HV0.out.five
    have f0 := HV0.out.frozen 0
    have f1 := HV0.out.frozen 1
    have f2 := HV0.out.frozen 2
    have f3 := HV0.out.frozen 3
    have f4 := HV0.out.frozen 4
    by_cases hx0 : x = 0
    · subst hx0
      have HR : Hid (normR n e = some (V.int 0)) := Lib.hid (by rw [hnx, Int.zero_mul]; exact normR_zero ⟨he1, he2⟩)
      clear hx hnx
      go_wp2_with fail
      refine bodyPost_ret (v := .tuple #[.agg #[.int .i64 3, .int .i64 0, .int .i64 0, .string ⟨#[]⟩, .slice none 0 0], .bool true]) (by simp [results, Tryd.results53, go_sem, q0, q1, q2, q3, q4]) rfl (normRet_some HR.out rfl ?_)
      repeat (first | exact HB0.out | (refine Below.setCell ?_ (by simp) _))
    have hk18 : k ≤ 18 := pow_big hx0 (by rw [← hnx]; exact HN.out)
    have qx : (x != 0) = true := by simpa using hx0
    have qx2 : (x == 0) = false := by simpa using hx0
    by_cases hek : e + k = 0
    · have HR := Lib.hid (normR_whole ⟨he1, he2⟩ HN.out hx0 hnx hek)
      have qe : (e + (k : Int) != 0) = false := by rw [hek]; rfl
      have qe2 : (e + (k : Int) == 0) = true := by rw [hek]; rfl
      clear hx hnx hek hx0
      by_cases hm : Int.tmod x 10 = 0
      · have qm : (Int.tmod x 10 == 0) = true := by rw [hm]; rfl
        clear hm
        go_wp2_with fail
        refine bodyPost_ret (v := .tuple #[.agg #[.int .i64 3, .int .i64 x, .int .i64 0, .string ⟨#[]⟩, .slice none 0 0], .bool true]) (by simp [results, Tryd.results53, go_sem, q0, q1, q2, q3, q4]) rfl (normRet_some HR.out rfl ?_)
        repeat (first | exact HB0.out | (refine Below.setCell ?_ (by simp) _))
      · have qm : (Int.tmod x 10 == 0) = false := by simpa using hm
        clear hm
        go_wp2_with fail
        refine bodyPost_ret (v := .tuple #[.agg #[.int .i64 3, .int .i64 x, .int .i64 0, .string ⟨#[]⟩, .slice none 0 0], .bool true]) (by simp [results, Tryd.results53, go_sem, q0, q1, q2, q3, q4]) rfl (normRet_some HR.out rfl ?_)
        repeat (first | exact HB0.out | (refine Below.setCell ?_ (by simp) _))
    have qe : (e + (k : Int) != 0) = true := by simpa using hek
    have qe2 : (e + (k : Int) == 0) = false := by simpa using hek
    by_cases hm : Int.tmod x 10 = 0
    · have qm : (Int.tmod x 10 == 0) = true := by rw [hm]; rfl
      have hq := inR_tdiv hx
      have hqr := hq
      unfold inR at hqr
      have HQ := Lib.hid hq
      have HT := Lib.hid (tdiv_ten hnx hm)
      have HS := Lib.hid (tdiv_small hx0)
      clear hx hnx hm hx0 hq hek
      go_wp2_with fail
      go_round
      case rel => exact ⟨Int.tdiv x 10, k + 1, by go_num, by go_num, HT.out, HQ.out⟩
      case measure => simp only [intOf]; first | exact HS.out | (have := HS.out; go_num; omega)
    · have qm : (Int.tmod x 10 == 0) = false := by simpa using hm
      have HR := Lib.hid (normR_of ⟨he1, he2⟩ HN.out hm hnx)
      clear hm hnx hx0
      by_cases hp : 0 < e + k
      · have qp : decide (0 < e + (k : Int)) = true := decide_eq_true hp
        by_cases hin : inR (x * 10 ^ (e + (k : Int)).toNat)
        · have ht : tens x (e + (k : Int)).toNat = some (x * 10 ^ (e + (k : Int)).toNat) := by rw [tens_mul _ x hx, if_pos hin]
          have HRV := Lib.hid (HR.out.trans (normV_pos_some (by omega) hin))
          have HTT := Lib.hid ht
          obtain ⟨y, hy⟩ : ∃ y, x * 10 ^ (e + (k : Int)).toNat = y := ⟨_, rfl⟩
          rw [hy] at HRV HTT
          clear hx hin ht hy hek
          go_wp2_with fail
          refine (implFitsI x (e + k) w0 HX.out hp (by omega)).mono ?_
          rintro r w1 ⟨rfl, rfl⟩
          rw [HTT.out]
          go_wp2_with fail
          refine bodyPost_ret (v := .tuple #[.agg #[.int .i64 3, .int .i64 y, .int .i64 0, .string ⟨#[]⟩, .slice none 0 0], .bool true]) (by simp [results, Tryd.results53, go_sem, q0, q1, q2, q3, q4]) rfl (normRet_some HRV.out rfl ?_)
          repeat (first | exact HB0.out | (refine Below.setCell ?_ (by simp) _))
        · have ht : tens x (e + (k : Int)).toNat = none := by rw [tens_mul _ x hx, if_neg hin]
          have HNO : Hid (¬ (0 ≤ e + (k : Int) ∧ inR (x * 10 ^ (e + (k : Int)).toNat))) := Lib.hid (fun h => hin h.2)
          have HTT := Lib.hid ht
          clear hx hin ht hek
          go_wp2_with fail
          refine (implFitsI x (e + k) w0 HX.out hp (by omega)).mono ?_
          rintro r w1 ⟨rfl, rfl⟩
          rw [HTT.out]
          go_wp2_with fail
          go_loop [0, 1] (fun z y => z = .int .i64 x ∧ y = .int .i64 (e + k)) (fun _ _ => 0)
          case atStart => exact ⟨rfl, rfl⟩
          case round =>
            obtain ⟨rfl, rfl⟩ := hrel
            go_wp2_with fail
            obtain ⟨w2, hw2⟩ : ∃ w2, w2 = w0.alloc (.cells #[.int .i64 4, .int .i64 x, .int .i64 (e + k), .string ⟨#[]⟩, .slice none 0 0] 34) := ⟨_, rfl⟩
            have B2 : Blk w2 w0.heap.size 34 #[.int .i64 4, .int .i64 x, .int .i64 (e + k), .string ⟨#[]⟩, .slice none 0 0] := by rw [hw2]; exact Blk.new w0 _ _
            have bx2 : Below w0.heap.size w0 w2 := by rw [hw2]; exact (Below.refl _ w0).alloc (Nat.le_refl _) _
            rw [← hw2]
            clear hw2
            refine (implIsDec (V.dec x (e + k)) none 0 w2).mono ?_
            rintro r w3 ⟨rfl, hb3⟩
            have b03 : Below w0.heap.size w0 w3 := bx2.trans (hb3.mono bx2.size)
            have B3 := B2.below hb3 B2.lt
            have V3 := HV0.out.below b03 lv
            have bw3 : Below w.heap.size w w3 := HB0.out.trans (b03.mono HB0.out.size)
            have HBW := Lib.hid bw3
            have hl3 := V3.lt
            clear q0 q1 q2 q3 q4 f0 f1 f2 f3 f4
            obtain ⟨q0, q1, q2, q3, q4⟩ := V3.five
            obtain ⟨r0, r1, r2, r3, r4⟩ := B3.five
            have f0 := V3.frozen 0
            have f1 := V3.frozen 1
            have f2 := V3.frozen 2
            have f3 := V3.frozen 3
            have f4 := V3.frozen 4
            clear hb3 b03 bx2 B2 B3 V3 bw3
            by_cases hd : decOk x (e + k)
            · rw [show decide (decOk (V.dec x (e + k)).n (V.dec x (e + k)).e) = true from decide_eq_true hd]
              have HRV := Lib.hid (HR.out.trans (normV_dec HNO.out hd))
              clear hd
              go_wp2_with fail
              refine bodyPost_ret (v := .tuple #[.agg #[.int .i64 4, .int .i64 x, .int .i64 (e + k), .string ⟨#[]⟩, .slice none 0 0], .bool true]) (by simp [results, Tryd.results53, go_sem, q0, q1, q2, q3, q4]) rfl (normRet_some HRV.out rfl ?_)
              repeat (first | exact HBW.out | (refine Below.setCell ?_ (by simp) _))
            · rw [show decide (decOk (V.dec x (e + k)).n (V.dec x (e + k)).e) = false from decide_eq_false hd]
              have HRV := Lib.hid (HR.out.trans (normV_none HNO.out hd))
              clear hd
              go_wp2_with fail
              refine bodyPost_ret (v := .tuple #[.agg #[.int .i64 0, .int .i64 0, .int .i64 0, .string ⟨#[]⟩, .slice none 0 0], .bool false]) (by simp [results, Tryd.results53, go_sem, q0, q1, q2, q3, q4]) rfl (normRet_none HRV.out rfl ?_)
              repeat (first | exact HBW.out | (refine Below.setCell ?_ (by simp) _))
      · have qp : decide (0 < e + (k : Int)) = false := decide_eq_false hp
        have HNO : Hid (¬ (0 ≤ e + (k : Int) ∧ inR (x * 10 ^ (e + (k : Int)).toNat))) := Lib.hid (fun h => by omega)
        clear hx hek
        go_wp2_with fail
        obtain ⟨w2, hw2⟩ : ∃ w2, w2 = w0.alloc (.cells #[.int .i64 4, .int .i64 x, .int .i64 (e + k), .string ⟨#[]⟩, .slice none 0 0] 34) := ⟨_, rfl⟩
        have B2 : Blk w2 w0.heap.size 34 #[.int .i64 4, .int .i64 x, .int .i64 (e + k), .string ⟨#[]⟩, .slice none 0 0] := by rw [hw2]; exact Blk.new w0 _ _
        have bx2 : Below w0.heap.size w0 w2 := by rw [hw2]; exact (Below.refl _ w0).alloc (Nat.le_refl _) _
        rw [← hw2]
        clear hw2
        refine (implIsDec (V.dec x (e + k)) none 0 w2).mono ?_
        rintro r w3 ⟨rfl, hb3⟩
        have b03 : Below w0.heap.size w0 w3 := bx2.trans (hb3.mono bx2.size)
        have B3 := B2.below hb3 B2.lt
        have V3 := HV0.out.below b03 lv
        have bw3 : Below w.heap.size w w3 := HB0.out.trans (b03.mono HB0.out.size)
        have HBW := Lib.hid bw3
        have hl3 := V3.lt
        clear q0 q1 q2 q3 q4 f0 f1 f2 f3 f4
        obtain ⟨q0, q1, q2, q3, q4⟩ := V3.five
        obtain ⟨r0, r1, r2, r3, r4⟩ := B3.five
        have f0 := V3.frozen 0
        have f1 := V3.frozen 1
        have f2 := V3.frozen 2
        have f3 := V3.frozen 3
        have f4 := V3.frozen 4
        clear hb3 b03 bx2 B2 B3 V3 bw3
        by_cases hd : decOk x (e + k)
        · rw [show decide (decOk (V.dec x (e + k)).n (V.dec x (e + k)).e) = true from decide_eq_true hd]
          have HRV := Lib.hid (HR.out.trans (normV_dec HNO.out hd))
          clear hd
          go_wp2_with fail
          refine bodyPost_ret (v := .tuple #[.agg #[.int .i64 4, .int .i64 x, .int .i64 (e + k), .string ⟨#[]⟩, .slice none 0 0], .bool true]) (by simp [results, Tryd.results53, go_sem, q0, q1, q2, q3, q4]) rfl (normRet_some HRV.out rfl ?_)
          repeat (first | exact HBW.out | (refine Below.setCell ?_ (by simp) _))
        · rw [show decide (decOk (V.dec x (e + k)).n (V.dec x (e + k)).e) = false from decide_eq_false hd]
          have HRV := Lib.hid (HR.out.trans (normV_none HNO.out hd))
          clear hd
          go_wp2_with fail
          refine bodyPost_ret (v := .tuple #[.agg #[.int .i64 0, .int .i64 0, .int .i64 0, .string ⟨#[]⟩, .slice none 0 0], .bool false]) (by simp [results, Tryd.results53, go_sem, q0, q1, q2, q3, q4]) rfl (normRet_none HRV.out rfl ?_)
          repeat (first | exact HBW.out | (refine Below.setCell ?_ (by simp) _))
theorem implNorm (n e : Int) (w : World) (hn : inR n) : Calls Tryd.prog 53 #[.int .i64 n, .int .i64 e] w (NormRet n e w) := by
  by_cases he : -1000 ≤ e ∧ e ≤ 1000
  · exact implNorm_in n e w hn he
  · exact implNorm_out n e w he
end Go.Proofs.YtbflkcldjjpioaaDoor

/-
  The program's ReadNum, where there is a number.
-/
namespace Go.Proofs.YtbflkcldjjpioaaDoor
open Go.RowKit
set_option linter.unusedVariables false
set_option linter.unusedSimpArgs false
set_option maxRecDepth 100000

/-- A value and a place are handed back. -/
def RetI (v : V) (z : Int) (w : World) (r : Ending) (w' : World) : Prop := r = .returned (.tuple #[v.agg none 0, .int .i64 z]) ∧ Below w.heap.size w w'
theorem ext_strI {s : ByteArray} {i j : Nat} (h : i ≤ j) : s.extract i j = str (piece s i (j - i)) := by
  apply ba_ext
  have := extract_piece s i (j - i)
  rw [show i + (j - i) = j by omega] at this
  rw [this]
  simp [str]
theorem str_joinI (a b : List UInt8) : str a ++ str b = str (a ++ b) := by
  apply ByteArray.ext
  apply Array.ext'
  simp [str]
theorem str_data (l : List UInt8) : (str l).data.toList = l := by simp [str]
set_option maxHeartbeats 16000000 in
theorem implReadNum_in (s : ByteArray) (i : Nat) (w : World) (hs : s.size ≤ 1048576) (hi : i < s.size) (hr : runN s (fAt s i) ≠ fAt s i) (hP : Pow10 w) (hE : Errs w) :
    Calls Tryd.prog 23 #[.string s, .int .i64 i] w (RetI (rdV (rnP s i)) (rdE (rnP s i)) w) := by
  have HNUM := Lib.hid (fun W => (implNumber s i W hs (by omega)).mono fun e w' h => (⟨h.2.2 (by rw [fAtE_lt hi]; exact hr), h.1⟩ : _ ∧ w' = W))
  rw [fAtE_lt hi] at HNUM
  obtain ⟨f, hf⟩ : ∃ f, fAt s i = f := ⟨_, rfl⟩
  have hfl := fAt_le hi
  rw [hf] at hr hfl HNUM
  obtain ⟨a, ha⟩ : ∃ a, wholeAt s f = a := ⟨_, rfl⟩
  have hal := wholeAt_le hfl.2.2 hr
  rw [ha] at hal HNUM
  obtain ⟨b, hb⟩ : ∃ b, fracN s a = b := ⟨_, rfl⟩
  have hbl := fracN_le hal.2.2
  rw [hb] at hbl HNUM
  obtain ⟨d, hd⟩ : ∃ d, expN s b = d := ⟨_, rfl⟩
  have hdl := expN_le hbl.2
  rw [hd] at hdl HNUM
  have hRN := rnP_at hi hf hr ha hb hd
  have hD := dgs_dig hfl.2.2 hr ha hb
  have hDl := dgs_len (s := s) (f := f) (a := a) (b := b) (by omega) hal.2.2 hbl.2
  have HDD : Hid (dgs s f a b = piece s f (a - f) ++ (if a < b then piece s (a + 1) (b - (a + 1)) else [])) := Lib.hid rfl
  have hcs := cut_sign (s := s) (i := i) (a := a) hi (by omega) (by rw [hf]; omega)
  rw [hf] at hcs
  have hcp := cut_point hal.2.2 hb
  obtain ⟨D, hDe⟩ : ∃ D, dgs s f a b = D := ⟨_, rfl⟩
  have hnone := rnO_none (s := s) (i := i) (f := f) (a := a) (b := b) (d := d)
  have hsome := fun n => rnO_some (s := s) (i := i) (f := f) (a := a) (b := b) (d := d) (n := n)
  rw [hDe] at hD hDl HDD hnone
  obtain ⟨v, hv⟩ : ∃ v, rdV (rnP s i) = v := ⟨_, rfl⟩
  obtain ⟨z, hz⟩ : ∃ z, rdE (rnP s i) = z := ⟨_, rfl⟩
  rw [hRN] at hv hz
  rw [hRN, hv, hz]
  have HB0 := Lib.hid (Blk.new w 34 #[.int .i64 0, .int .i64 0, .int .i64 0, .string ⟨#[]⟩, .slice none 0 0])
  have Hb0 : Hid (Below w.heap.size w (w.alloc (.cells #[.int .i64 0, .int .i64 0, .int .i64 0, .string ⟨#[]⟩, .slice none 0 0] 34))) := Lib.hid ((Below.refl _ w).alloc (Nat.le_refl _) _)
  obtain ⟨w0, hw0⟩ : ∃ w0, w.alloc (.cells #[.int .i64 0, .int .i64 0, .int .i64 0, .string ⟨#[]⟩, .slice none 0 0] 34) = w0 := ⟨_, rfl⟩
  rw [hw0] at HB0 Hb0
  have HW0 := Lib.hid hw0
  have HP0 : Hid (Pow10 w0) := Lib.hid (hP.below Hb0.out (Nat.le_refl _))
  have HE0 : Hid (Errs w0) := Lib.hid (hE.below Hb0.out (Nat.le_refl _))
  have hle1 : decide (i ≤ s.size) = true := decide_eq_true (by omega)
  have hle2 : decide ((i : Int) ≤ (s.size : Int)) = true := decide_eq_true (by omega)
  clear hw0 hP hE
  by_cases h60 : 60 < d - i
  · have hq60 : (60 : Int) < (d : Int) - i := by omega
    rw [rnO_far h60] at hv hz
    have HV : Hid (v = V.nought) := Lib.hid hv.symm
    have HZ : Hid (z = -1) := Lib.hid hz.symm
    obtain ⟨q0, q1, q2, q3, q4⟩ := HB0.out.five
    have f0 := HB0.out.frozen 0
    have f1 := HB0.out.frozen 1
    have f2 := HB0.out.frozen 2
    have f3 := HB0.out.frozen 3
    have f4 := HB0.out.frozen 4
    clear hv hz h60 hnone hsome hDe hRN hd hb ha hf hr hD hDl hcs hcp
    go_enter Tryd.func23, Tryd.ntmps23
    go_upto_region 3 with (go_at_call 46; go_in)
    rw [HW0.out]
    go_wp2_with fail
    refine (HNUM.out _).mono ?_
    rintro e w1 ⟨rfl, rfl⟩
    go_wp2_with fail
    refine bodyPost_ret (v := .tuple #[.agg #[.int .i64 0, .int .i64 0, .int .i64 0, .string ⟨#[]⟩, .slice none 0 0], .int .i64 (-1)]) (by simp [results, Tryd.results23, go_sem, q0, q1, q2, q3, q4]) rfl ⟨by rw [HV.out, HZ.out]; rfl, ?_⟩
    repeat (first | exact Hb0.out | (refine Below.setCell ?_ (by simp) _))
  · have hq60 : ¬ (60 : Int) < (d : Int) - i := by omega
    have HREAD := Lib.hid (fun W hP hE => implReadZ (s.extract i d) W (by rw [ByteArray.size_extract]; omega) hP hE)
    have hx1 : (0 : Int) ≤ (i : Int) ∧ (i : Int) ≤ (d : Int) ∧ (d : Int) ≤ (s.size : Int) := by omega
    obtain ⟨hx1, hx2, hx3⟩ := hx1
    have hrz := readZ_range (s.extract i d)
    cases hrd : readZ (s.extract i d) with
    | some n =>
      rw [hsome n h60 hrd] at hv hz
      have HV : Hid (v = V.int n) := Lib.hid hv.symm
      have HZ : Hid (z = d) := Lib.hid hz.symm
      rw [hrd] at HREAD hrz
      clear hv hz h60 hnone hsome hDe hRN hd hb ha hf hr hD hDl hcs hcp hrd
      go_enter Tryd.func23, Tryd.ntmps23
      go_upto_region 3 with (go_at_call 46; go_in)
      rw [HW0.out]
      go_wp2_with fail
      refine (HNUM.out _).mono ?_
      rintro e w1 ⟨rfl, rfl⟩
      go_wp2_with fail
      refine (HREAD.out _ HP0.out HE0.out).mono ?_
      rintro r w2 ⟨rfl, hb2⟩
      have B2 := HB0.out.below hb2 HB0.out.lt
      have b2 := Hb0.out.trans (hb2.mono Hb0.out.size)
      obtain ⟨q0, q1, q2, q3, q4⟩ := B2.five
      have f0 := B2.frozen 0
      have f1 := B2.frozen 1
      have f2 := B2.frozen 2
      have f3 := B2.frozen 3
      have f4 := B2.frozen 4
      have HB2 := Lib.hid b2
      clear hb2 B2 b2
      go_wp2_with fail
      refine bodyPost_ret (v := .tuple #[.agg #[.int .i64 3, .int .i64 n, .int .i64 0, .string ⟨#[]⟩, .slice none 0 0], .int .i64 d]) (by simp [results, Tryd.results23, go_sem, q0, q1, q2, q3, q4]) rfl ⟨by rw [HV.out, HZ.out]; rfl, ?_⟩
      repeat (first | exact HB2.out | (refine Below.setCell ?_ (by simp) _))
    | none =>
      have hno := hnone h60 hrd
      rw [hno] at hv hz
      rw [hrd] at HREAD hrz
      obtain ⟨ex, hex⟩ : ∃ ex, ExpIs (piece s b (d - b)) ex ∧ ∀ W, Pow10 W → Errs W → Calls Tryd.prog 52 #[.string (str (piece s b (d - b)))] W fun e w' => e = .returned (.int .i64 ex) ∧ Below W.heap.size W w' := by
        by_cases hbd : b < d
        · obtain ⟨x, sg, DD, h⟩ := exp_shape hbl.2 hd hbd
          exact ⟨_, .inr ⟨x, sg, DD, h, rfl⟩, fun W hP hE => implExpOf _ sg DD x W h (by rw [piece_len _ _ _ (by omega)]; omega) hP hE⟩
        · have : d - b = 0 := by omega
          rw [this, piece_zero]
          exact ⟨0, .inl ⟨rfl, rfl⟩, fun W _ _ => (implExpOf_none W).mono fun e w' h => ⟨h.1, h.2 ▸ Below.refl _ _⟩⟩
      have hexr := expIs_range hex.1
      have hDn : D.length ≤ 61 := by omega
      rw [numG_impl hex.1 (by omega) (by omega)] at hv hz
      have HEX := Lib.hid hex.2
      have hxp : s.extract b d = str (piece s b (d - b)) := ext_strI (by omega)
      obtain ⟨P, hP'⟩ : ∃ P, str (piece s b (d - b)) = P := ⟨_, rfl⟩
      rw [hP'] at HEX hxp
      have HXP := Lib.hid hxp
      have hL1 := dropZ_len D
      have hT1 : (numT D).length ≤ (dropZ D).length := cutZ_len _
      have HCP : Hid (∀ W, Calls Tryd.prog 48 #[.string (s.extract i a), .string ⟨#[45]⟩] W fun e w' => e = .returned (.tuple #[.string (str (piece s f (a - f))), .bool (decide (i < f))]) ∧ w' = W) := Lib.hid (fun W => by
        have h := Tryd.strings_CutPrefix (s.extract i a) ⟨#[45]⟩ W
        rw [ext_strI (s := s) (i := i) (j := a) (by omega)] at h ⊢
        rw [str_data, show (⟨#[45]⟩ : ByteArray).data.toList = [45] from rfl, hcs.1, hcs.2] at h
        exact h)
      obtain ⟨Y, hY⟩ : ∃ Y, (if a < b then piece s (a + 1) (b - (a + 1)) else []) = Y := ⟨_, rfl⟩
      rw [hY] at HDD hcp
      have HTP : Hid (∀ W, Calls Tryd.prog 50 #[.string (s.extract a b), .string ⟨#[46]⟩] W fun e w' => e = .returned (.string (str Y)) ∧ w' = W) := Lib.hid (fun W => by
        have h := Tryd.strings_TrimPrefix (s.extract a b) ⟨#[46]⟩ W
        rw [ext_strI (s := s) (i := a) (j := b) (by omega)] at h ⊢
        rw [str_data, show (⟨#[46]⟩ : ByteArray).data.toList = [46] from rfl, hcp] at h
        exact h)
      have HJ : Hid (str (piece s f (a - f)) ++ str Y = str D) := Lib.hid (by rw [str_joinI, HDD.out])
      have HTL : Hid (∀ W, Calls Tryd.prog 49 #[.string (str (piece s f (a - f)) ++ str Y), .string ⟨#[48]⟩] W fun e w' => e = .returned (.string (str (dropZ D))) ∧ w' = W) := Lib.hid (fun W => by
        have h := Tryd.strings_TrimLeft_byte (str D) 48 (by decide) W
        rw [str_data] at h
        rw [HJ.out]
        exact h)
      have HTR : Hid (∀ W, Calls Tryd.prog 51 #[.string (str (dropZ D)), .string ⟨#[48]⟩] W fun e w' => e = .returned (.string (str (numT D))) ∧ w' = W) := Lib.hid (fun W => by
        have h := Tryd.strings_TrimRight_one (str (dropZ D)) 48 (by decide) W (by rw [strlen]; omega)
        rw [str_data] at h
        exact h)
      have hsX : (str (piece s f (a - f))).size ≤ 100 := by rw [strlen, piece_len _ _ _ (by omega)]; omega
      have hsY : (str Y).size ≤ 100 := by
        rw [strlen, ← hY]
        split
        · rw [piece_len _ _ _ (by omega)]; omega
        · simp
      have hsL : (str (dropZ D)).size = (dropZ D).length := strlen _
      have hsT : (str (numT D)).size = (numT D).length := strlen _
      have HRS : Hid ((numT D).length ≤ 18 → ∀ W, Pow10 W → Errs W → Calls Tryd.prog 12 #[.string (str (numT D))] W fun e w' => (∃ okk, e = .returned (.tuple #[.int .i64 (dval (numT D) : Nat), .bool okk])) ∧ Below W.heap.size W w') := Lib.hid (fun h18 W hP hE => by
        have h := implReadZ (str (numT D)) W (by rw [strlen]; omega) hP hE
        have hd1 : ∀ x ∈ numT D, isDig x := fun x hx => hD x (dropZ_mem (cutZ_mem hx))
        by_cases hne : numT D = []
        · rw [hne] at h ⊢
          rw [readZ_empty] at h
          exact h.mono fun e w' h => ⟨⟨false, h.1⟩, h.2⟩
        · have h48 : ∀ x r, numT D = x :: r → x ≠ 48 := by
            intro x r hx
            cases hz : dropZ D with
            | nil =>
              have : numT D = [] := by unfold numT; rw [hz]; rfl
              exact absurd this hne
            | cons y q =>
              have h1 := cutZ_split (dropZ D)
              rw [show cutZ (dropZ D) = x :: r from hx, hz] at h1
              injection h1 with h1 _
              rw [← h1]
              exact dropZ_head hz
          rw [readZ_digits hd1 h18 h48 hne] at h
          exact h.mono fun e w' h => ⟨⟨true, h.1⟩, h.2⟩)
      have hdv : (numT D).length ≤ 18 → dval (numT D) < 1000000000000000000 := fun h18 => by
        have h1 := dval_lt (numT D) (fun x hx => hD x (dropZ_mem (cutZ_mem hx)))
        have h10 : 10 ^ (numT D).length ≤ 10 ^ 18 := Nat.pow_le_pow_right (by omega) h18
        omega
      obtain ⟨dv, hdve⟩ : ∃ dv, dval (numT D) = dv := ⟨_, rfl⟩
      rw [hdve] at HRS hdv hv hz
      obtain ⟨X, hX⟩ : ∃ X, str (piece s f (a - f)) = X := ⟨_, rfl⟩
      rw [hX] at HCP HTL hsX
      obtain ⟨y, hy⟩ : ∃ y, str Y = y := ⟨_, rfl⟩
      rw [hy] at HTP HTL hsY
      obtain ⟨L, hL⟩ : ∃ L, str (dropZ D) = L := ⟨_, rfl⟩
      rw [hL] at HTL HTR hsL
      obtain ⟨T, hT⟩ : ∃ T, str (numT D) = T := ⟨_, rfl⟩
      rw [hT] at HTR HRS hsT
      rw [← hsL, ← hsT] at hT1
      rw [← hsL] at hL1
      rw [← hsT] at HRS hdv
      rw [← hsL, ← hsT] at hv hz
      obtain ⟨tif, htif⟩ : ∃ tif, decide (i < f) = tif := ⟨_, rfl⟩
      rw [htif] at HCP hv hz
      have hfl3 : b - (a + 1) ≤ 61 := by omega
      have HFL : Hid (max (0 : Int) ((b : Int) - a - 1) = ((b - (a + 1) : Nat) : Int)) := Lib.hid (by omega)
      have hxa : (i : Int) ≤ (a : Int) ∧ (a : Int) ≤ (s.size : Int) ∧ (a : Int) ≤ (b : Int) ∧ (b : Int) ≤ (s.size : Int) ∧ (b : Int) ≤ (d : Int) ∧ (0 : Int) ≤ (a : Int) ∧ (0 : Int) ≤ (b : Int) := by omega
      obtain ⟨x1, x2, x3, x4, x5, x6, x7⟩ := hxa
      clear h60 hnone hsome hDe hRN hd hb ha hf hr hD hDl hcs hcp hrd hno hex hxp hP' hY HDD HJ hX hy hL hT hsL hsT hdve htif
      go_enter Tryd.func23, Tryd.ntmps23
      go_upto_region 3 with (go_at_call 46; go_in)
      rw [HW0.out]
      go_wp2_with fail
      refine (HNUM.out _).mono ?_
      rintro e w1 ⟨rfl, rfl⟩
      go_wp2_with fail
      refine (HREAD.out _ HP0.out HE0.out).mono ?_
      rintro r w2 ⟨rfl, hb2⟩
      have b2 := Hb0.out.trans (hb2.mono Hb0.out.size)
      have HB2 := Lib.hid (HB0.out.below hb2 HB0.out.lt)
      have Hb2 := Lib.hid b2
      have HP2 : Hid (Pow10 w2) := Lib.hid (HP0.out.below hb2 (Nat.le_refl _))
      have HE2 : Hid (Errs w2) := Lib.hid (HE0.out.below hb2 (Nat.le_refl _))
      clear hb2 b2
      go_wp2_with fail
      refine (HCP.out _).mono ?_
      rintro r w3 ⟨rfl, rfl⟩
      go_wp2_with fail
      refine (HTP.out _).mono ?_
      rintro r w4 ⟨rfl, rfl⟩
      go_wp2_with fail
      refine (HTL.out _).mono ?_
      rintro r w5 ⟨rfl, rfl⟩
      go_wp2_with fail
      refine (HTR.out _).mono ?_
      rintro r w6 ⟨rfl, rfl⟩
      go_wp2_with fail
      rw [HXP.out]
      refine (HEX.out _ HP2.out HE2.out).mono ?_
      rintro r w7 ⟨rfl, hb7⟩
      have b7 := Hb2.out.trans (hb7.mono Hb2.out.size)
      have HB7 := Lib.hid (HB2.out.below hb7 HB2.out.lt)
      have Hb7 := Lib.hid b7
      have HP7 : Hid (Pow10 w7) := Lib.hid (HP2.out.below hb7 (Nat.le_refl _))
      have HE7 : Hid (Errs w7) := Lib.hid (HE2.out.below hb7 (Nat.le_refl _))
      clear hb7 b7 HCP HTP HTL HTR HREAD HNUM
      go_upto_region 13 with fail
      rw [HFL.out]
      obtain ⟨fl, hfl4⟩ : ∃ fl, b - (a + 1) = fl := ⟨_, rfl⟩
      rw [hfl4] at hv hz hfl3 ⊢
      clear HFL hfl4
      have hL61 : L.size ≤ 61 := by omega
      have hT61 : T.size ≤ 61 := by omega
      have hNR := fun h18 => (sgnV_range (neg := tif) (m := dv) (hdv h18)).1
      have hNS := fun h18 => (sgnV_range (neg := tif) (m := dv) (hdv h18)).2
      by_cases h18 : 18 < T.size
      · rw [if_pos h18] at hv hz
        have HV : Hid (v = V.nought) := Lib.hid hv.symm
        have HZ : Hid (z = -1) := Lib.hid hz.symm
        have hq18 : (18 : Int) < (T.size : Int) := by omega
        obtain ⟨q0, q1, q2, q3, q4⟩ := HB7.out.five
        have f0 := HB7.out.frozen 0
        have f1 := HB7.out.frozen 1
        have f2 := HB7.out.frozen 2
        have f3 := HB7.out.frozen 3
        have f4 := HB7.out.frozen 4
        clear hv hz h18 HRS hNR hNS hdv
        go_wp2_with fail
        refine bodyPost_ret (v := .tuple #[.agg #[.int .i64 0, .int .i64 0, .int .i64 0, .string ⟨#[]⟩, .slice none 0 0], .int .i64 (-1)]) (by simp [results, Tryd.results23, go_sem, q0, q1, q2, q3, q4]) rfl ⟨by rw [HV.out, HZ.out]; rfl, ?_⟩
        repeat (first | exact Hb7.out | (refine Below.setCell ?_ (by simp) _))
      · rw [if_neg h18] at hv hz
        have hq18 : ¬ (18 : Int) < (T.size : Int) := by omega
        have hd18 := hdv (by omega)
        have hNR1 := hNR (by omega)
        have hNS1 := hNS (by omega)
        have HR2 := Lib.hid (HRS.out (by omega))
        have HN := Lib.hid (fun W => implNorm (sgnV tif dv) (ex - (fl : Int) + (L.size : Int) - (T.size : Int)) W hNR1)
        rw [(rd_norm).1] at hv
        rw [(rd_norm).2] at hz
        unfold NormRet at HN
        rw [hv] at HN
        obtain ⟨ok, hok⟩ : ∃ ok, normB (sgnV tif dv) (ex - (fl : Int) + (L.size : Int) - (T.size : Int)) = ok := ⟨_, rfl⟩
        rw [hok] at HN hz
        have HVN : Hid (ok = false → v = V.nought) := Lib.hid (fun h => by
          rw [h] at hok
          rw [← hv]
          unfold normB at hok
          unfold normD
          cases hh : normR (sgnV tif dv) (ex - (fl : Int) + (L.size : Int) - (T.size : Int)) with
          | none => rfl
          | some x => rw [hh] at hok; cases hok)
        have HZ := Lib.hid hz
        unfold V.agg at HN
        clear hv hz h18 HRS hNR hNS hdv hok hNR1
        go_wp2_with fail
        refine (HR2.out _ HP7.out HE7.out).mono ?_
        rintro r w8 ⟨⟨okk, rfl⟩, hb8⟩
        have b8 := Hb7.out.trans (hb8.mono Hb7.out.size)
        have HB8 := Lib.hid (HB7.out.below hb8 HB7.out.lt)
        have Hb8 := Lib.hid b8
        clear hb8 b8 HR2
        go_upto_if 97 with fail
        go_cut [15] from 19 (fun y wx => y = .int .i64 (sgnV tif dv) ∧ wx = w8)
        case first =>
          cases tif with
          | true =>
            go_wp2_with fail
            go_meet
            case rel => exact ⟨rfl, rfl⟩
          | false =>
            go_wp2_with fail
            go_meet
            case rel => exact ⟨rfl, rfl⟩
        case rest =>
        obtain ⟨rfl, rfl⟩ := hcut
        obtain ⟨sv, hsv⟩ : ∃ sv, sgnV tif dv = sv := ⟨_, rfl⟩
        rw [hsv] at HN hNS1 ⊢
        obtain ⟨ee, hee⟩ : ∃ ee, ex - (fl : Int) + (L.size : Int) - (T.size : Int) = ee := ⟨_, rfl⟩
        rw [hee] at HN ⊢
        clear hsv hee
        go_wp2_with fail
        refine (HN.out _).mono ?_
        rintro r w9 ⟨rfl, hb9⟩
        go_upto_region 19 with fail
        have B1 := (HB8.out.below hb9 HB8.out.lt).alloc (.cells #[.int .i64 v.k, .int .i64 v.n, .int .i64 v.e, .string v.s, .slice none v.kids.length 0] 34)
        have Bv := Blk.new w9 34 #[.int .i64 v.k, .int .i64 v.n, .int .i64 v.e, .string v.s, .slice none v.kids.length 0]
        have b1 := (Hb8.out.trans (hb9.mono Hb8.out.size)).alloc (Nat.le_trans Hb8.out.size hb9.size) (.cells #[.int .i64 v.k, .int .i64 v.n, .int .i64 v.e, .string v.s, .slice none v.kids.length 0] 34)
        have hne : w9.heap.size ≠ w.heap.size := by have := HB8.out.lt; have := hb9.size; omega
        obtain ⟨wz, hwz⟩ : ∃ wz, w9.alloc (.cells #[.int .i64 v.k, .int .i64 v.n, .int .i64 v.e, .string v.s, .slice none v.kids.length 0] 34) = wz := ⟨_, rfl⟩
        rw [hwz] at B1 Bv b1 ⊢
        obtain ⟨q0, q1, q2, q3, q4⟩ := B1.five
        obtain ⟨p0, p1, p2, p3, p4⟩ := Bv.five
        have f0 := B1.frozen 0
        have f1 := B1.frozen 1
        have f2 := B1.frozen 2
        have f3 := B1.frozen 3
        have f4 := B1.frozen 4
        have HBZ := Lib.hid b1
        clear hb9 B1 b1 hwz Bv
        cases ok with
        | false =>
          have HVV := Lib.hid (HVN.out rfl)
          go_wp2_with fail
          refine bodyPost_ret (v := .tuple #[.agg #[.int .i64 0, .int .i64 0, .int .i64 0, .string ⟨#[]⟩, .slice none 0 0], .int .i64 (-1)]) (by simp [results, Tryd.results23, go_sem, q0, q1, q2, q3, q4]) rfl ⟨by rw [HVV.out, ← HZ.out]; rfl, ?_⟩
          repeat (first | exact HBZ.out | (refine Below.setCell ?_ (by simp) _))
        | true =>
          go_wp2_with fail
          refine bodyPost_ret (v := .tuple #[.agg #[.int .i64 v.k, .int .i64 v.n, .int .i64 v.e, .string v.s, .slice none v.kids.length 0], .int .i64 d]) (by simp [results, Tryd.results23, go_sem, q0, q1, q2, q3, q4]) rfl ⟨by rw [← HZ.out]; rfl, ?_⟩
          repeat (first | exact HBZ.out | (refine Below.setCell ?_ (by simp) _))
end Go.Proofs.YtbflkcldjjpioaaDoor

/-
  The program's ReadNum, everywhere.
-/
namespace Go.Proofs.YtbflkcldjjpioaaDoor
open Go.RowKit
set_option linter.unusedVariables false
set_option linter.unusedSimpArgs false
set_option maxRecDepth 100000

set_option maxHeartbeats 16000000 in
theorem implReadNum (s : ByteArray) (i : Int) (w : World) (hs : s.size ≤ 1048576) (hP : Pow10 w) (hE : Errs w) :
    Calls Tryd.prog 23 #[.string s, .int .i64 i] w (RetI (rdV (rnP s i)) (rdE (rnP s i)) w) := by
  have HB0 := Lib.hid (Blk.new w 34 #[.int .i64 0, .int .i64 0, .int .i64 0, .string ⟨#[]⟩, .slice none 0 0])
  have Hb0 : Hid (Below w.heap.size w (w.alloc (.cells #[.int .i64 0, .int .i64 0, .int .i64 0, .string ⟨#[]⟩, .slice none 0 0] 34))) := Lib.hid ((Below.refl _ w).alloc (Nat.le_refl _) _)
  obtain ⟨w0, hw0⟩ : ∃ w0, w.alloc (.cells #[.int .i64 0, .int .i64 0, .int .i64 0, .string ⟨#[]⟩, .slice none 0 0] 34) = w0 := ⟨_, rfl⟩
  rw [hw0] at HB0 Hb0
  have HW0 := Lib.hid hw0
  obtain ⟨q0, q1, q2, q3, q4⟩ := HB0.out.five
  have f0 := HB0.out.frozen 0
  have f1 := HB0.out.frozen 1
  have f2 := HB0.out.frozen 2
  have f3 := HB0.out.frozen 3
  have f4 := HB0.out.frozen 4
  clear hw0
  by_cases hin : 0 ≤ i ∧ i ≤ s.size
  · obtain ⟨i, rfl⟩ := Int.eq_ofNat_of_zero_le hin.1
    have hi : i ≤ s.size := by omega
    by_cases hr : runN s (fAtE s i) = fAtE s i
    · have hrn : rnP s i = none := by
        by_cases h : i < s.size
        · exact rnP_no (by rw [← fAtE_lt h]; exact hr)
        · exact rnP_out (by omega)
      rw [hrn]
      have HNUM := Lib.hid (fun W => (implNumber s i W hs hi).mono fun e w' h => (⟨h.2.1 hr, h.1⟩ : _ ∧ w' = W))
      have hle1 : decide (i ≤ s.size) = true := decide_eq_true (by omega)
      have hle2 : decide ((i : Int) ≤ (s.size : Int)) = true := decide_eq_true (by omega)
      clear hr hin hrn
      go_enter Tryd.func23, Tryd.ntmps23
      go_upto_region 3 with (go_at_call 46; go_in)
      rw [HW0.out]
      go_wp2_with fail
      refine (HNUM.out _).mono ?_
      rintro e w1 ⟨rfl, rfl⟩
      go_wp2_with fail
      refine bodyPost_ret (v := .tuple #[.agg #[.int .i64 0, .int .i64 0, .int .i64 0, .string ⟨#[]⟩, .slice none 0 0], .int .i64 (-1)]) (by simp [results, Tryd.results23, go_sem, q0, q1, q2, q3, q4]) rfl ⟨rfl, ?_⟩
      repeat (first | exact Hb0.out | (refine Below.setCell ?_ (by simp) _))
    · have hlt : i < s.size := by
        refine Classical.byContradiction fun h => hr ?_
        have : fAtE s i = i := if_neg h
        rw [this]
        exact runN_stop (fun h2 => h h2.1)
      exact implReadNum_in s i w hs hlt (by rw [← fAtE_lt hlt]; exact hr) hP hE
  · rw [rnP_out (by omega)]
    rcases (show i < 0 ∨ (¬ i < 0 ∧ (s.size : Int) < i) by omega) with h | ⟨h, h2⟩
    · have q : decide (0 ≤ i) = false := decide_eq_false (by omega)
      clear hin
      go_enter Tryd.func23, Tryd.ntmps23
      go_upto_region 2 with (go_at_call 46; go_in)
      rw [HW0.out]
      go_wp2_with fail
      refine bodyPost_ret (v := .tuple #[.agg #[.int .i64 0, .int .i64 0, .int .i64 0, .string ⟨#[]⟩, .slice none 0 0], .int .i64 (-1)]) (by simp [results, Tryd.results23, go_sem, q0, q1, q2, q3, q4]) rfl ⟨rfl, ?_⟩
      repeat (first | exact Hb0.out | (refine Below.setCell ?_ (by simp) _))
    · have q : decide (0 ≤ i) = true := decide_eq_true (by omega)
      have q2' : decide (i ≤ (s.size : Int)) = false := decide_eq_false (by omega)
      clear hin
      go_enter Tryd.func23, Tryd.ntmps23
      go_upto_region 2 with (go_at_call 46; go_in)
      rw [HW0.out]
      go_wp2_with fail
      refine bodyPost_ret (v := .tuple #[.agg #[.int .i64 0, .int .i64 0, .int .i64 0, .string ⟨#[]⟩, .slice none 0 0], .int .i64 (-1)]) (by simp [results, Tryd.results23, go_sem, q0, q1, q2, q3, q4]) rfl ⟨rfl, ?_⟩
      repeat (first | exact Hb0.out | (refine Below.setCell ?_ (by simp) _))
end Go.Proofs.YtbflkcldjjpioaaDoor

/-
  The text of a mark; a row of texts in memory.
-/
namespace Go.Proofs.YtbflkcldjjpioaaDoor
open Go.RowKit
set_option linter.unusedVariables false
set_option linter.unusedSimpArgs false

/-- The decimal digits of a number ahead of a text. -/
def digB : Nat → Nat → ByteArray → ByteArray
  | 0, _, out => out
  | f + 1, k, out => if k = 0 then out else digB f (k / 10) (str [byteI (48 + (k : Int) % 10)] ++ out)
theorem digB_more : ∀ (f g k : Nat) (out : ByteArray), k ≤ f → k ≤ g → digB f k out = digB g k out
  | 0, 0, _, _, _, _ => rfl
  | 0, g + 1, k, out, h, _ => by
    obtain rfl : k = 0 := by omega
    simp [digB]
  | f + 1, 0, k, out, _, h => by
    obtain rfl : k = 0 := by omega
    simp [digB]
  | f + 1, g + 1, k, out, h, h' => by
    unfold digB
    by_cases hk : k = 0
    · simp [hk]
    · rw [if_neg hk, if_neg hk]
      exact digB_more f g _ _ (by omega) (by omega)
theorem digB_step (k : Nat) (out : ByteArray) (hk : 0 < k) : digB k k out = digB (k / 10) (k / 10) (str [byteI (48 + (k : Int) % 10)] ++ out) := by
  obtain ⟨f, rfl⟩ : ∃ f, k = f + 1 := ⟨k - 1, by omega⟩
  show (if f + 1 = 0 then _ else digB f ((f + 1) / 10) _) = _
  rw [if_neg (by omega)]
  exact digB_more _ _ _ _ (by omega) (Nat.le_refl _)
/-- The letter m and the digits. -/
def mtext (k : Nat) : ByteArray := ByteArray.mk #[109] ++ digB k k ByteArray.empty

/-- How the digits so far and the rest keep below the number. -/
def DigRel (k j n : Nat) : Prop := 10 ^ n * j ≤ k ∧ n ≤ 9 ∧ k ≤ 100000000
theorem DigRel.next {k j n : Nat} (h : DigRel k j n) (hj : 0 < j) : DigRel k (j / 10) (n + 1) := by
  obtain ⟨h1, h2, h3⟩ := h
  have h4 : 10 ^ (n + 1) * (j / 10) ≤ 10 ^ n * j := by
    rw [Nat.pow_succ, Nat.mul_assoc]
    exact Nat.mul_le_mul_left _ (by omega)
  have h5 : n < 9 := by
    rcases Nat.lt_or_ge n 9 with h | h
    · exact h
    · have h6 : 10 ^ 9 ≤ 10 ^ n := Nat.pow_le_pow_right (by omega) h
      have h7 : 10 ^ n * 1 ≤ 10 ^ n * j := Nat.mul_le_mul_left _ hj
      omega
  exact ⟨by omega, by omega, h3⟩
theorem DigRel.small {k j n : Nat} (h : DigRel k j n) : n ≤ 9 := h.2.1

set_option maxHeartbeats 1000000 in
theorem markText (k : Nat) (w : World) (h0 : 0 < k) (hk : k ≤ 100000000) :
    Calls Tryd.prog 86 #[.int .i64 k] w fun e w' => e = .returned (.string (mtext k)) ∧ Below w.heap.size w w' := by
  have hk0 : k ≠ 0 := by omega
  have hkk : k < 9223372036854775808 := by omega
  have HR := Lib.hid (show DigRel k k 0 from ⟨by omega, by omega, hk⟩)
  clear hk
  have hl := lit1 (P := Tryd.prog) 87 9 5 Tryd.underlying87 Tryd.underlying5 Tryd.underlying9
  go_enter Tryd.func86, Tryd.ntmps86
  go_wp2_with fail
  go_loopw [0, 3] (fun i o wr => ∃ (j : Nat) (t : ByteArray), i = .int .i64 j ∧ o = .string t ∧ DigRel k j t.size ∧ digB j j t = digB k k ByteArray.empty ∧ Below w.heap.size w wr) (fun i _ _ => (intOf i).toNat)
  case atStart => exact ⟨k, ByteArray.empty, rfl, rfl, HR.out, rfl, Below.refl _ _⟩
  case round =>
    obtain ⟨j, t, rfl, rfl, hjt, hd, hb⟩ := hrel
    by_cases hj : 0 < j
    · have hs := digB_step j t hj
      have HS := Lib.hid hs
      have HD := Lib.hid hd
      clear hs hd
      have hsz : (str [byteI (48 + (j : Int) % 10)]).size = 1 := str_len _
      have ht9 := hjt.small
      have HJ := Lib.hid (hjt.next hj)
      have hjk : j < 9223372036854775808 := by
        have h1 : 10 ^ t.size * j ≤ k := hjt.1
        have h2 : 1 * j ≤ 10 ^ t.size * j := Nat.mul_le_mul_right _ (Nat.pow_pos (by omega))
        omega
      clear hjt
      go_wp2_with fail
      go_roundw
      case rel => exact ⟨j / 10, str [byteI (48 + (j : Int) % 10)] ++ t, by go_num, rfl, by rw [ByteArray.size_append, hsz, Nat.add_comm]; exact HJ.out, by rw [← HS.out]; exact HD.out, hb.alloc hb.size _⟩
      case measure => simp [intOf]; omega
    · obtain rfl : j = 0 := by omega
      have ht9 := hjt.small
      have ht : mtext k = ByteArray.mk #[109] ++ t := by unfold mtext; rw [← hd]; rfl
      have HT := Lib.hid ht
      clear ht hd
      go_wp2_with fail
      go_ret
      exact ⟨ret_eq (by rw [HT.out]; rfl), hb⟩

/-- A text as a cell. -/
def tv (s : ByteArray) : Value := .string s
theorem row_form {w : World} {base : Nat} {e : TypeId} {o : Value} {n : Nat} {xs : List Value} (h : w.ownsRow base e 1 o n xs) : ∃ A c, o = .slice A n c ∧ (0 < n → ∃ g, A = some ⟨g, 0, none⟩) := by
  rcases h.2 with ⟨rfl, rfl⟩ | ⟨g, c, cur, rfl, _⟩
  · exact ⟨none, 0, rfl, fun h => absurd h (by omega)⟩
  · exact ⟨_, _, rfl, fun _ => ⟨g, rfl⟩⟩
theorem row_cell {w : World} {base g c : Nat} {e : TypeId} {l : List ByteArray} (h : w.ownsRow base e 1 (.slice (some ⟨g, 0, none⟩) l.length c) l.length (l.map tv)) (j : Nat) (hj : j < l.length) : w.cell? ⟨g, j, none⟩ = some (.string l[j]) := by
  rw [h.cellAt j (by omega)]
  simp [hj, tv]

end Go.Proofs.YtbflkcldjjpioaaDoor

/-
  A tree whose rows lie each in a block of its own; the tree marked.
-/
namespace Go.Proofs.YtbflkcldjjpioaaDoor
open Go.RowKit
set_option linter.unusedVariables false
set_option linter.unusedSimpArgs false

/-- A block whose cells may be stored into. -/
def soft (w : World) (b : Nat) : Prop := ∀ q, w.frozen? ⟨b, q, none⟩ = false
theorem soft_same {w w' : World} {b : Nat} (h : soft w b) (hb : w'.heap[b]? = w.heap[b]?) : soft w' b := fun q => by
  have := h q
  unfold World.frozen? at this ⊢
  rw [hb]
  exact this
theorem soft_own {w : World} {base g c n size : Nat} {e : TypeId} {xs : List Value} (h : w.ownsRow base e size (.slice (some ⟨g, 0, none⟩) n c) n xs) : soft w g := fun q => h.frozenAt q

mutual
/-- The kids' rows of a value, each in a block of its own; F: the blocks. -/
def V.lies (w : World) : V → Option Addr → List Nat → Prop
  | .mk _ _ _ _ ks, A, F => (ks = [] ∧ F = []) ∨ ∃ b G, A = some ⟨b, 0, none⟩ ∧ F = b :: G ∧ b < w.heap.size ∧ soft w b ∧ Vs.cells w b 0 ks G
def Vs.cells (w : World) (b : Nat) : Nat → List V → List Nat → Prop
  | _, [], G => G = []
  | off, v :: r, G => ∃ A' cap G1 G2, G = G1 ++ G2 ∧ v.kids.length ≤ cap ∧ CellsAt w b off v A' cap ∧ V.lies w v A' G1 ∧ Vs.cells w b (off + 5) r G2
end
def Vs.lies (w : World) (l : List V) (A : Option Addr) (F : List Nat) : Prop := (l = [] ∧ F = []) ∨ ∃ b G, A = some ⟨b, 0, none⟩ ∧ F = b :: G ∧ b < w.heap.size ∧ soft w b ∧ Vs.cells w b 0 l G
theorem V.lies_kids {w : World} {v : V} {A : Option Addr} {F : List Nat} : V.lies w v A F ↔ Vs.lies w v.kids A F := by
  cases v; simp only [V.lies, Vs.lies, V.kids]

/-- What says nothing of other blocks. -/
def SameIn (F : List Nat) (w w' : World) : Prop := w.heap.size ≤ w'.heap.size ∧ ∀ b ∈ F, w'.heap[b]? = w.heap[b]?
theorem cells_keep {w w' : World} {b off : Nat} {v : V} {A : Option Addr} {c : Nat} (h : CellsAt w b off v A c) (hb : w'.heap[b]? = w.heap[b]?) : CellsAt w' b off v A c :=
  h.keep fun q _ => World.cell?_of_block hb
mutual
theorem V.lies_same {w w' : World} : ∀ (v : V) (A : Option Addr) (F : List Nat), V.lies w v A F → SameIn F w w' → V.lies w' v A F
  | .mk _ _ _ _ ks, A, F, h, hs => by
    simp only [V.lies] at h ⊢
    rcases h with h | ⟨b, G, h1, rfl, h3, h4, h5⟩
    · exact .inl h
    · have hb := hs.2 b (by simp)
      exact .inr ⟨b, G, h1, rfl, Nat.lt_of_lt_of_le h3 hs.1, soft_same h4 hb, Vs.cells_same b 0 ks G h5 hb ⟨hs.1, fun c hc => hs.2 c (by simp [hc])⟩⟩
theorem Vs.cells_same {w w' : World} (b : Nat) : ∀ (off : Nat) (l : List V) (G : List Nat), Vs.cells w b off l G → w'.heap[b]? = w.heap[b]? → SameIn G w w' → Vs.cells w' b off l G
  | _, [], G, h, _, _ => by simp only [Vs.cells] at h ⊢; exact h
  | off, v :: r, G, h, hb, hs => by
    simp only [Vs.cells] at h ⊢
    obtain ⟨A', cap, G1, G2, rfl, h2, h3, h4, h5⟩ := h
    exact ⟨A', cap, G1, G2, rfl, h2, cells_keep h3 hb, V.lies_same v A' G1 h4 ⟨hs.1, fun c hc => hs.2 c (by simp [hc])⟩, Vs.cells_same b (off + 5) r G2 h5 hb ⟨hs.1, fun c hc => hs.2 c (by simp [hc])⟩⟩
end
theorem Vs.lies_same {w w' : World} {l : List V} {A : Option Addr} {F : List Nat} (h : Vs.lies w l A F) (hs : SameIn F w w') : Vs.lies w' l A F := by
  have h1 : V.lies w (.mk 0 0 0 ⟨#[]⟩ l) A F := V.lies_kids.2 h
  exact V.lies_kids.1 (V.lies_same _ A F h1 hs)

/-- One value of a row, and what it takes to put another into its place. -/
theorem Vs.cells_at {w : World} {b : Nat} : ∀ (L : List V) (off : Nat) (G : List Nat) (j : Nat) (h : j < L.length), Vs.cells w b off L G →
    ∃ A' cap G1 Gj G2, G = G1 ++ (Gj ++ G2) ∧ (L[j]).kids.length ≤ cap ∧ CellsAt w b (off + j * 5) L[j] A' cap ∧ V.lies w L[j] A' Gj ∧
      ∀ (w' : World) (v' : V), v'.kids.length = (L[j]).kids.length → CellsAt w' b (off + j * 5) v' A' cap → V.lies w' v' A' Gj →
        (∀ q, (q < off + j * 5 ∨ off + j * 5 + 5 ≤ q) → w'.cell? ⟨b, q, none⟩ = w.cell? ⟨b, q, none⟩) → SameIn (G1 ++ G2) w w' → Vs.cells w' b off (L.set j v') G
  | v :: r, off, G, 0, _, h => by
    simp only [Vs.cells] at h
    obtain ⟨A', cap, G1, G2, rfl, h2, h3, h4, h5⟩ := h
    refine ⟨A', cap, [], G1, G2, by simp, by simpa using h2, by simpa using h3, h4, fun w' v' k1 k2 k3 k4 k5 => ?_⟩
    simp only [List.set_cons_zero, Vs.cells]
    refine ⟨A', cap, G1, G2, rfl, by rw [k1]; exact h2, by simpa using k2, k3, ?_⟩
    have key : ∀ (off' : Nat) (l : List V) (G : List Nat), off + 5 ≤ off' → (∀ c ∈ G, c ∈ G2) → Vs.cells w b off' l G → Vs.cells w' b off' l G := by
      intro off' l
      induction l generalizing off' with
      | nil => intro G _ _ h; simp only [Vs.cells] at h ⊢; exact h
      | cons a l ih =>
        intro G ho hG h
        simp only [Vs.cells] at h ⊢
        obtain ⟨A', cap, H1, H2, rfl, m2, m3, m4, m5⟩ := h
        exact ⟨A', cap, H1, H2, rfl, m2, m3.keep fun q hq => k4 _ (.inr (by omega)), V.lies_same _ _ _ m4 ⟨k5.1, fun c hc => k5.2 c (by simpa using hG c (by simp [hc]))⟩, ih (off' + 5) H2 (by omega) (fun c hc => hG c (by simp [hc])) m5⟩
    exact key (off + 5) r G2 (Nat.le_refl _) (fun c hc => hc) h5
  | v :: r, off, G, j + 1, hj, h => by
    simp only [Vs.cells] at h
    obtain ⟨A', cap, G1, G2, rfl, h2, h3, h4, h5⟩ := h
    obtain ⟨B, cap', H1, Hj, H2, rfl, m2, m3, m4, m5⟩ := Vs.cells_at r (off + 5) G2 j (by simpa using hj) h5
    have he : off + 5 + j * 5 = off + (j + 1) * 5 := by omega
    rw [he] at m3 m5
    refine ⟨B, cap', G1 ++ H1, Hj, H2, by simp, by simpa using m2, by simpa using m3, by simpa using m4, fun w' v' k1 k2 k3 k4 k5 => ?_⟩
    simp only [List.set_cons_succ, Vs.cells]
    refine ⟨A', cap, G1, H1 ++ (Hj ++ H2), by simp, h2, h3.keep fun q hq => k4 _ (.inl (by omega)), V.lies_same _ _ _ h4 ⟨k5.1, fun c hc => k5.2 c (by simp [hc])⟩, m5 w' v' (by simpa using k1) k2 k3 k4 ⟨k5.1, fun c hc => k5.2 c (by simp at hc ⊢; rcases hc with h | h <;> simp [h])⟩⟩
end Go.Proofs.YtbflkcldjjpioaaDoor

/-
  The laws' marks in a tree: markValueS turns a tree whose rows lie apart into the marked tree.
-/
namespace Go.Proofs.YtbflkcldjjpioaaDoor
open Go.RowKit
set_option linter.unusedVariables false
set_option linter.unusedSimpArgs false

mutual
/-- A value marked from k on. -/
def V.mark : V → Nat → V
  | .mk _ _ _ _ ks, k => .mk k ((k + 1 : Nat) : Int) ((k + 2 : Nat) : Int) (mtext (k + 3)) (Vs.mark ks (k + 4))
def Vs.mark : List V → Nat → List V
  | [], _ => []
  | v :: r, k => v.mark k :: Vs.mark r (k + 4 * v.nodes)
end
theorem V.mark_kids (v : V) (k : Nat) : (v.mark k).kids = Vs.mark v.kids (k + 4) := by cases v; simp [V.mark, V.kids]
theorem V.mark_k (v : V) (k : Nat) : (v.mark k).k = (k : Int) := by cases v; simp [V.mark, V.k]
theorem V.mark_n (v : V) (k : Nat) : (v.mark k).n = ((k + 1 : Nat) : Int) := by cases v; simp [V.mark, V.n]
theorem V.mark_e (v : V) (k : Nat) : (v.mark k).e = ((k + 2 : Nat) : Int) := by cases v; simp [V.mark, V.e]
theorem V.mark_s (v : V) (k : Nat) : (v.mark k).s = mtext (k + 3) := by cases v; simp [V.mark, V.s]
theorem Vs.mark_len (l : List V) : ∀ k, (Vs.mark l k).length = l.length := by
  induction l with
  | nil => intro k; simp [Vs.mark]
  | cons v r ih => intro k; simp [Vs.mark, ih]
theorem Vs.mark_snoc (l : List V) (v : V) : ∀ k, Vs.mark (l ++ [v]) k = Vs.mark l k ++ [v.mark (k + 4 * Vs.nodes l)] := by
  induction l with
  | nil => intro k; simp [Vs.mark, Vs.nodes]
  | cons a l ih =>
    intro k
    simp only [List.cons_append, Vs.mark, ih, Vs.nodes]
    rw [show k + 4 * a.nodes + 4 * Vs.nodes l = k + 4 * (a.nodes + Vs.nodes l) by omega]
/-- The first j values marked. -/
def Vs.markTo (l : List V) (k j : Nat) : List V := Vs.mark (l.take j) k ++ l.drop j
theorem Vs.markTo_len (l : List V) (k j : Nat) (h : j ≤ l.length) : (Vs.markTo l k j).length = l.length := by
  unfold Vs.markTo; simp [Vs.mark_len]; omega
theorem Vs.markTo_get (l : List V) (k j : Nat) (h : j < l.length) (h' : j < (Vs.markTo l k j).length) : (Vs.markTo l k j)[j] = l[j] := by
  have hl : (Vs.mark (l.take j) k).length = j := by rw [Vs.mark_len, List.length_take]; omega
  have h2 : (Vs.markTo l k j)[j]? = some l[j] := by
    unfold Vs.markTo
    rw [List.getElem?_append_right (by omega), hl, Nat.sub_self, List.getElem?_drop, Nat.add_zero, List.getElem?_eq_getElem h]
  rw [List.getElem?_eq_getElem h'] at h2
  exact Option.some.inj h2
theorem Vs.markTo_next (l : List V) (k j : Nat) (h : j < l.length) : (Vs.markTo l k j).set j (l[j].mark (k + 4 * Vs.nodes (l.take j))) = Vs.markTo l k (j + 1) := by
  unfold Vs.markTo
  have hl : (Vs.mark (l.take j) k).length = j := by rw [Vs.mark_len, List.length_take]; omega
  rw [List.set_append_right _ _ (by omega), hl, Nat.sub_self, List.drop_eq_getElem_cons h, List.set_cons_zero, List.take_succ_eq_append_getElem h, Vs.mark_snoc]
  simp
theorem Vs.markTo_all (l : List V) (k : Nat) : Vs.markTo l k l.length = Vs.mark l k := by unfold Vs.markTo; simp
theorem Vs.markTo_none (l : List V) (k : Nat) : Vs.markTo l k 0 = l := by unfold Vs.markTo; simp [Vs.mark]

/-- Only blocks of F have changed. -/
structure Touch (F : List Nat) (w w' : World) : Prop where
  os : w'.os = w.os
  tape : w'.tape = w.tape
  output : w'.output = w.output
  size : w.heap.size ≤ w'.heap.size
  block : ∀ c, c < w.heap.size → c ∉ F → w'.heap[c]? = w.heap[c]?
theorem Touch.refl (F : List Nat) (w : World) : Touch F w w := ⟨rfl, rfl, rfl, Nat.le_refl _, fun _ _ _ => rfl⟩
theorem Touch.trans {F : List Nat} {a b c : World} (h : Touch F a b) (k : Touch F b c) : Touch F a c :=
  ⟨k.os.trans h.os, k.tape.trans h.tape, k.output.trans h.output, Nat.le_trans h.size k.size, fun i hi hf => (k.block i (Nat.lt_of_lt_of_le hi h.size) hf).trans (h.block i hi hf)⟩
theorem Touch.more {F G : List Nat} {a b : World} (h : Touch F a b) (hs : ∀ c ∈ F, c ∈ G) : Touch G a b :=
  ⟨h.os, h.tape, h.output, h.size, fun i hi hf => h.block i hi fun h' => hf (hs i h')⟩
theorem Touch.of_below {F : List Nat} {a b : World} (h : Below a.heap.size a b) : Touch F a b := ⟨h.os, h.tape, h.output, h.size, fun i hi _ => h.block i hi⟩
theorem Touch.set {F : List Nat} {a b : World} (h : Touch F a b) {p : Addr} (hp : p.block ∈ F) (u : Value) : Touch F a (b.setCell p u) :=
  ⟨h.os, h.tape, h.output, by simpa using h.size, fun i hi hf => (Below.heap_setCell b p u i (fun e => hf (by rw [e]; exact hp))).trans (h.block i hi hf)⟩

/-- How one value of a row is marked. -/
theorem mark_round {w : World} {b : Nat} {l : List V} {k j : Nat} {G : List Nat} (h : j < l.length) (hc : Vs.cells w b 0 (Vs.markTo l k j) G) :
    ∃ A' cap G1 Gj G2, G = G1 ++ (Gj ++ G2) ∧ CellsAt w b (j * 5) l[j] A' cap ∧ Vs.lies w (l[j]).kids A' Gj ∧
      ∀ w' : World, CellsAt w' b (j * 5) (l[j].mark (k + 4 * Vs.nodes (l.take j))) A' cap → Vs.lies w' (Vs.mark (l[j]).kids (k + 4 * Vs.nodes (l.take j) + 4)) A' Gj →
        (∀ q, (q < j * 5 ∨ j * 5 + 5 ≤ q) → w'.cell? ⟨b, q, none⟩ = w.cell? ⟨b, q, none⟩) → SameIn (G1 ++ G2) w w' → Vs.cells w' b 0 (Vs.markTo l k (j + 1)) G := by
  have hl : j < (Vs.markTo l k j).length := by rw [Vs.markTo_len l k j (Nat.le_of_lt h)]; exact h
  obtain ⟨A', cap, G1, Gj, G2, h1, h2, h3, h4, h5⟩ := Vs.cells_at (Vs.markTo l k j) 0 G j hl hc
  rw [Vs.markTo_get l k j h hl] at h2 h3 h4 h5
  rw [Nat.zero_add] at h3 h5
  refine ⟨A', cap, G1, Gj, G2, h1, h3, V.lies_kids.1 h4, fun w' k1 k2 k3 k4 => ?_⟩
  rw [← Vs.markTo_next l k j h]
  exact h5 w' _ (by rw [V.mark_kids, Vs.mark_len]) k1 (V.lies_kids.2 (by rw [V.mark_kids]; exact k2)) k3 k4
theorem Touch.below {F : List Nat} {w w' : World} (h : Touch F w w') {B : Nat} (hB : B ≤ w.heap.size) (hF : ∀ c ∈ F, B ≤ c) : Below B w w' :=
  ⟨h.os, h.tape, h.output, h.size, fun k hk => h.block k (Nat.lt_of_lt_of_le hk hB) (fun hc => by have := hF k hc; omega)⟩
end Go.Proofs.YtbflkcldjjpioaaDoor
