/-
  The texts on which the last one leans, part 2: RnP, RnQ, RnR, NbP, Lies, InfoV, Row, At1, Draw1, Draw2, Bent.
-/
import Derived.Test.YtbfddabljkoapaaGreatDoorPLFnNumbera
import Derived.ChangeSlices
import Derived.SliceStrings
import Derived.Deep.Slices
import Derived.BigQuiet
import Derived.Deep.RegionHeld3
/-
  ReadNum, plainly: where a number's parts end, and what they tell.
-/
namespace Go.Proofs.YtbfddabljkoapaaGreatDoor
open Go.RowKit
set_option linter.unusedVariables false
set_option linter.unusedSimpArgs false

/-- A digit. -/
def isDig (b : UInt8) : Prop := 48 ≤ b.toNat ∧ b.toNat ≤ 57
instance (b : UInt8) : Decidable (isDig b) := by unfold isDig; infer_instance
/-- The place behind the digits from a place on. -/
def runG (s : ByteArray) : Nat → Nat → Nat
  | 0, i => i
  | f + 1, i => if i < s.size ∧ isDig (s.get! i) then runG s f (i + 1) else i
def runN (s : ByteArray) (i : Nat) : Nat := runG s (s.size - i) i
theorem runN_step {s : ByteArray} {i : Nat} (h : i < s.size) (hd : isDig (s.get! i)) : runN s i = runN s (i + 1) := by
  unfold runN
  rw [show s.size - i = (s.size - (i + 1)) + 1 by omega, runG, if_pos ⟨h, hd⟩]
theorem runN_stop {s : ByteArray} {i : Nat} (h : ¬ (i < s.size ∧ isDig (s.get! i))) : runN s i = i := by
  unfold runN
  cases s.size - i with
  | zero => rfl
  | succ f => rw [runG, if_neg h]
theorem runN_le {s : ByteArray} : ∀ (n i : Nat), s.size - i ≤ n → i ≤ s.size → i ≤ runN s i ∧ runN s i ≤ s.size := by
  intro n
  induction n with
  | zero => intro i h1 h2; rw [runN_stop (by omega)]; omega
  | succ n ih =>
    intro i h1 h2
    by_cases h : i < s.size ∧ isDig (s.get! i)
    · rw [runN_step h.1 h.2]; have := ih (i + 1) (by omega) (by omega); omega
    · rw [runN_stop h]; omega
theorem runN_ge {s : ByteArray} {i : Nat} (h : i ≤ s.size) : i ≤ runN s i ∧ runN s i ≤ s.size := runN_le _ i (Nat.le_refl _) h
theorem runN_dig {s : ByteArray} : ∀ (n i k : Nat), k - i ≤ n → i ≤ k → k < runN s i → isDig (s.get! k) := by
  intro n
  induction n with
  | zero =>
    intro i k h1 h2 h3
    obtain rfl : i = k := by omega
    exact Classical.byContradiction fun hn => by rw [runN_stop (fun h => hn h.2)] at h3; omega
  | succ n ih =>
    intro i k h1 h2 h3
    have hd : i < s.size ∧ isDig (s.get! i) := Classical.byContradiction fun hn => by rw [runN_stop hn] at h3; omega
    by_cases hik : i = k
    · subst hik; exact hd.2
    · rw [runN_step hd.1 hd.2] at h3
      exact ih (i + 1) k (by omega) (by omega) h3
theorem piece_dig {s : ByteArray} {i : Nat} (hi : i ≤ s.size) : ∀ j, i + j ≤ runN s i → ∀ b ∈ piece s i j, isDig b
  | 0, _, b, hb => by simp [piece] at hb
  | j + 1, h, b, hb => by
    have hr := runN_ge hi
    rw [piece_succ s i j (by omega)] at hb
    rcases List.mem_append.1 hb with hb | hb
    · exact piece_dig hi j (by omega) b hb
    · rw [List.mem_singleton] at hb
      rw [hb, get_get! s (i + j) (by omega)]
      exact runN_dig _ i (i + j) (Nat.le_refl _) (by omega) (by omega)

/-- The place behind a point and digits. -/
def fracN (s : ByteArray) (a : Nat) : Nat := if a < s.size ∧ (s.get! a).toNat = 46 ∧ a + 1 < runN s (a + 1) then runN s (a + 1) else a
/-- Where an exponent's digits begin. -/
def expK (s : ByteArray) (b : Nat) : Nat := if b + 1 < s.size ∧ ((s.get! (b + 1)).toNat = 43 ∨ (s.get! (b + 1)).toNat = 45) then b + 2 else b + 1
/-- The place behind an exponent. -/
def expN (s : ByteArray) (b : Nat) : Nat := if b < s.size ∧ ((s.get! b).toNat = 101 ∨ (s.get! b).toNat = 69) ∧ expK s b < runN s (expK s b) then runN s (expK s b) else b
/-- The place behind the whole part. -/
def wholeAt (s : ByteArray) (f : Nat) : Nat := if (s.get! f).toNat = 48 then f + 1 else runN s f
theorem fracN_le {s : ByteArray} {a : Nat} (h : a ≤ s.size) : a ≤ fracN s a ∧ fracN s a ≤ s.size := by
  unfold fracN
  split
  · rename_i h2; have := runN_ge (s := s) (i := a + 1) (by omega); omega
  · omega
theorem expK_le {s : ByteArray} {b : Nat} (h : b < s.size) : b + 1 ≤ expK s b ∧ expK s b ≤ s.size ∧ expK s b ≤ b + 2 := by
  unfold expK; split <;> omega
theorem expN_le {s : ByteArray} {b : Nat} (h : b ≤ s.size) : b ≤ expN s b ∧ expN s b ≤ s.size := by
  unfold expN
  split
  · rename_i h2; have := expK_le h2.1; have := runN_ge (s := s) (i := expK s b) (by omega); omega
  · omega
theorem wholeAt_le {s : ByteArray} {f : Nat} (h : f ≤ s.size) (h2 : runN s f ≠ f) : f + 1 ≤ wholeAt s f ∧ wholeAt s f ≤ runN s f ∧ wholeAt s f ≤ s.size := by
  have := runN_ge h
  unfold wholeAt
  split <;> omega

/-- Digits without the noughts ahead. -/
def dropZ (l : List UInt8) : List UInt8 := l.dropWhile (· == 48)
theorem dropZ_head {l r : List UInt8} {a : UInt8} (h : dropZ l = a :: r) : a ≠ 48 := dropW_head h
theorem dropZ_mem {l : List UInt8} {b : UInt8} (h : b ∈ dropZ l) : b ∈ l := (List.dropWhile_sublist _).subset h
theorem dropZ_len (l : List UInt8) : (dropZ l).length ≤ l.length := (List.dropWhile_sublist _).length_le
theorem cutZ_mem {l : List UInt8} {b : UInt8} (h : b ∈ cutZ l) : b ∈ l := by
  rw [cutZ_split l]
  exact List.mem_append_left _ h
/-- A fold of the exponent's digits that stops at 10000. -/
def capF (n : Nat) (b : UInt8) : Nat := if isDig b ∧ n < 10000 then 10 * n + (b.toNat - 48) else n
theorem capF_lt {n : Nat} {b : UInt8} (h : n < 100000) : capF n b < 100000 := by
  unfold capF
  split
  · rename_i h2; have := h2.1; unfold isDig at this; omega
  · exact h
theorem cap_lt : ∀ (l : List UInt8) (n : Nat), n < 100000 → l.foldl capF n < 100000
  | [], n, h => h
  | b :: l, n, h => cap_lt l _ (capF_lt h)
theorem cap_stay : ∀ (l : List UInt8) (n : Nat), 10000 ≤ n → l.foldl capF n = n
  | [], n, h => rfl
  | b :: l, n, h => by
    rw [List.foldl_cons]
    have : capF n b = n := by unfold capF; rw [if_neg (by omega)]
    rw [this]
    exact cap_stay l n h
theorem cap_small : ∀ (l : List UInt8) (n j : Nat), (∀ b ∈ l, isDig b) → n < 10 ^ j → j + l.length ≤ 5 → l.foldl capF n = l.foldl (fun n b => 10 * n + (b.toNat - 48)) n ∧ l.foldl capF n < 10 ^ (j + l.length)
  | [], n, j, _, h, _ => ⟨rfl, h⟩
  | b :: l, n, j, hd, h, hj => by
    simp only [List.length_cons] at hj
    have hb := hd b (by simp)
    have h4 : 10 ^ j ≤ 10 ^ 4 := Nat.pow_le_pow_right (by omega) (by omega)
    have e : capF n b = 10 * n + (b.toNat - 48) := by unfold capF; rw [if_pos ⟨hb, by omega⟩]
    have h5 : 10 * n + (b.toNat - 48) < 10 ^ (j + 1) := by rw [Nat.pow_succ]; unfold isDig at hb; omega
    have ih := cap_small l _ (j + 1) (fun x hx => hd x (by simp [hx])) h5 (by omega)
    rw [List.foldl_cons, List.foldl_cons, e, List.length_cons, show j + (l.length + 1) = j + 1 + l.length by omega]
    exact ih
theorem cap_big : ∀ (l : List UInt8) (n j : Nat), (∀ b ∈ l, isDig b) → 10 ^ j ≤ n → 4 ≤ j + l.length → 10000 ≤ l.foldl capF n
  | [], n, j, _, h, hj => by
    have : 10 ^ 4 ≤ 10 ^ j := Nat.pow_le_pow_right (by omega) (by simpa using hj)
    simp only [List.foldl_nil]; omega
  | b :: l, n, j, hd, h, hj => by
    by_cases hn : 10000 ≤ n
    · rw [cap_stay _ _ hn]; exact hn
    · have hb := hd b (by simp)
      have e : capF n b = 10 * n + (b.toNat - 48) := by unfold capF; rw [if_pos ⟨hb, by omega⟩]
      rw [List.foldl_cons, e]
      exact cap_big l _ (j + 1) (fun x hx => hd x (by simp [hx])) (by rw [Nat.pow_succ]; omega) (by simp only [List.length_cons] at hj; omega)
theorem cap_dropZ : ∀ l : List UInt8, l.foldl capF 0 = (dropZ l).foldl capF 0
  | [] => rfl
  | b :: l => by
    unfold dropZ
    by_cases hb : b = 48
    · subst hb
      rw [List.dropWhile_cons_of_pos (by rfl), List.foldl_cons]
      exact cap_dropZ l
    · rw [List.dropWhile_cons_of_neg (by simpa using hb)]
/-- What the reference reads of an exponent. -/
def powS (l : List UInt8) : Int := (if (45 : UInt8) ∈ l then -1 else 1) * ((l.foldl capF 0 : Nat) : Int)
/-- What an exponent looks like: its letter, a sign or none, digits. -/
def ExpOf (l : List UInt8) (x : UInt8) (sg DD : List UInt8) : Prop := l = x :: (sg ++ DD) ∧ (x.toNat = 101 ∨ x.toNat = 69) ∧ (sg = [] ∨ sg = [43] ∨ sg = [45]) ∧ DD ≠ [] ∧ ∀ b ∈ DD, isDig b
/-- What the program reads of an exponent's digits. -/
def magI (DD : List UInt8) : Nat := if (dropZ DD).length < 6 then dval (dropZ DD) else 100000
def expI (sg DD : List UInt8) : Int := if sg = [45] then -(magI DD : Int) else (magI DD : Int)
theorem magI_le (DD : List UInt8) (hd : ∀ b ∈ DD, isDig b) : magI DD ≤ 100000 := by
  unfold magI
  split
  · rename_i h
    have := cap_small (dropZ DD) 0 0 (fun b hb => hd b (dropZ_mem hb)) (by omega) (by omega)
    have h2 : 10 ^ (0 + (dropZ DD).length) ≤ 10 ^ 5 := Nat.pow_le_pow_right (by omega) (by omega)
    unfold dval
    rw [← this.1]
    omega
  · omega
theorem capF_not {n : Nat} {b : UInt8} (h : ¬ isDig b) : capF n b = n := by unfold capF; rw [if_neg (fun h2 => h h2.1)]
theorem powS_of {l sg DD : List UInt8} {x : UInt8} (h : ExpOf l x sg DD) : powS l = (if sg = [45] then -1 else 1) * ((DD.foldl capF 0 : Nat) : Int) := by
  obtain ⟨rfl, hx, hs, hne, hd⟩ := h
  have hxd : ¬ isDig x := by unfold isDig; omega
  have hx45 : x ≠ 45 := by rintro rfl; revert hx; decide
  have hd45 : (45 : UInt8) ∉ DD := fun h => by have := hd _ h; revert this; decide
  have e1 : ((45 : UInt8) ∈ x :: (sg ++ DD)) ↔ sg = [45] := by
    rcases hs with rfl | rfl | rfl
    · simp [hd45, Ne.symm hx45]
    · simp [hd45, Ne.symm hx45]
    · simp
  have e2 : (x :: (sg ++ DD)).foldl capF 0 = DD.foldl capF 0 := by
    rw [List.foldl_cons, capF_not hxd, List.foldl_append]
    rcases hs with rfl | rfl | rfl
    · rfl
    · rfl
    · rfl
  unfold powS
  rw [e2]
  by_cases hc : sg = [45]
  · rw [if_pos (e1.2 hc), if_pos hc]
  · rw [if_neg (fun h => hc (e1.1 h)), if_neg hc]
/-- Both readings are alike, or both out of all bounds. -/
theorem pow_close {l sg DD : List UInt8} {x : UInt8} (h : ExpOf l x sg DD) : (powS l = expI sg DD ∨ ((powS l ≤ -10000 ∨ 10000 ≤ powS l) ∧ (expI sg DD ≤ -10000 ∨ 10000 ≤ expI sg DD))) ∧ -100000 ≤ powS l ∧ powS l ≤ 100000 ∧ -100000 ≤ expI sg DD ∧ expI sg DD ≤ 100000 := by
  have hm := magI_le DD h.2.2.2.2
  have hc := cap_lt DD 0 (by omega)
  have key : DD.foldl capF 0 = magI DD ∨ (10000 ≤ DD.foldl capF 0 ∧ 10000 ≤ magI DD) := by
    unfold magI
    rw [cap_dropZ]
    have hd : ∀ b ∈ dropZ DD, isDig b := fun b hb => h.2.2.2.2 b (dropZ_mem hb)
    by_cases hl : (dropZ DD).length < 6
    · rw [if_pos hl]
      exact .inl (cap_small (dropZ DD) 0 0 hd (by omega) (by omega)).1
    · rw [if_neg hl]
      right
      refine ⟨?_, by omega⟩
      cases hz : dropZ DD with
      | nil => rw [hz] at hl; simp at hl
      | cons a r =>
        have ha := dropZ_head hz
        rw [hz] at hd hl
        have had := hd a (by simp)
        have : a.toNat ≠ 48 := fun e => ha (UInt8.toNat_inj.1 e)
        have e : capF 0 a = a.toNat - 48 := by unfold capF; rw [if_pos ⟨had, by omega⟩]; omega
        rw [List.foldl_cons, e]
        unfold isDig at had
        simp only [List.length_cons] at hl
        exact cap_big r _ 0 (fun b hb => hd b (by simp [hb])) (by omega) (by omega)
  rw [powS_of h]
  unfold expI
  by_cases hs : sg = [45]
  · rw [if_pos hs, if_pos hs]; omega
  · rw [if_neg hs, if_neg hs]; omega
end Go.Proofs.YtbfddabljkoapaaGreatDoor

/-
  ReadNum, plainly: what it hands back, by the program's way and by the reference's.
-/
namespace Go.Proofs.YtbfddabljkoapaaGreatDoor
open Go.RowKit
set_option linter.unusedVariables false
set_option linter.unusedSimpArgs false

open Classical in
/-- The number of which a text is the notation. -/
noncomputable def readZ (t : ByteArray) : Option Int := if h : ∃ v : Int, (-9223372036854775808 ≤ v ∧ v ≤ 9223372036854775807) ∧ str (Lib.itoa v) = t then some h.choose else none
theorem readZ_some {t : ByteArray} {v : Int} (h : readZ t = some v) : (-9223372036854775808 ≤ v ∧ v ≤ 9223372036854775807) ∧ str (Lib.itoa v) = t := by
  unfold readZ at h
  split at h
  · rename_i h2
    injection h with h
    subst h
    exact h2.choose_spec
  · cases h
theorem readZ_none {t : ByteArray} (h : readZ t = none) : NoDec t := by
  unfold readZ at h
  split at h
  · cases h
  · rename_i h2
    exact fun v hv he => h2 ⟨v, hv, he⟩
theorem str_inj {a b : List UInt8} (h : str a = str b) : a = b := by
  unfold str at h
  injection h with h
  injection h
theorem readZ_yes {v : Int} (h : -9223372036854775808 ≤ v ∧ v ≤ 9223372036854775807) : readZ (str (Lib.itoa v)) = some v := by
  have h2 : ∃ v' : Int, (-9223372036854775808 ≤ v' ∧ v' ≤ 9223372036854775807) ∧ str (Lib.itoa v') = str (Lib.itoa v) := ⟨v, h, rfl⟩
  unfold readZ
  rw [dif_pos h2]
  have e := atoi_itoa _ h2.choose_spec.1
  rw [str_inj h2.choose_spec.2, atoi_itoa v h] at e
  injection e with e
  rw [← e]

/-- Where a number's digits begin. -/
def fAt (s : ByteArray) (i : Nat) : Nat := if (s.get! i).toNat = 45 then i + 1 else i
theorem fAt_le {s : ByteArray} {i : Nat} (h : i < s.size) : i ≤ fAt s i ∧ fAt s i ≤ i + 1 ∧ fAt s i ≤ s.size := by unfold fAt; split <;> omega
/-- A number's digits, the point left out. -/
def dgs (s : ByteArray) (f a b : Nat) : List UInt8 := piece s f (a - f) ++ (if a < b then piece s (a + 1) (b - (a + 1)) else [])
/-- Those that count. -/
def numT (D : List UInt8) : List UInt8 := cutZ (dropZ D)
def sgnV (neg : Bool) (n : Nat) : Int := if neg then -(n : Int) else (n : Int)
/-- The number of digits and a power. -/
def numG (neg : Bool) (D : List UInt8) (e : Int) : Option V := if 18 < (numT D).length then none else normR (sgnV neg (dval (numT D))) (e + (((dropZ D).length - (numT D).length : Nat) : Int))
/-- The power ahead of the digits that are cut. -/
def powE (s : ByteArray) (a b d : Nat) : Int := powS (piece s b (d - b)) - ((b - (a + 1) : Nat) : Int)
/-- ReadNum at a place, its parts known. -/
noncomputable def rnO (s : ByteArray) (i f a b d : Nat) : Option V := if 60 < d - i then none else match readZ (s.extract i d) with
  | some n => some (V.int n)
  | none => numG (decide (i < f)) (dgs s f a b) (powE s a b d)
noncomputable def rnP (s : ByteArray) (i : Int) : Option (V × Nat) :=
  if 0 ≤ i ∧ i < s.size ∧ runN s (fAt s i.toNat) ≠ fAt s i.toNat then
    (rnO s i.toNat (fAt s i.toNat) (wholeAt s (fAt s i.toNat)) (fracN s (wholeAt s (fAt s i.toNat))) (expN s (fracN s (wholeAt s (fAt s i.toNat))))).map fun v => (v, expN s (fracN s (wholeAt s (fAt s i.toNat))))
  else none

/-- What the reference keeps of the digits: one at least. -/
def keepL (D : List UInt8) : List UInt8 := if dropZ D = [] then [48] else dropZ D
def keepT (D : List UInt8) : List UInt8 := if dropZ D = [] then [48] else numT D
theorem all48 : ∀ l : List UInt8, (∀ b ∈ l, b = 48) → l = List.replicate l.length 48
  | [], _ => rfl
  | a :: l, h => by
    have h1 := h a (by simp)
    have h2 := all48 l (fun b hb => h b (by simp [hb]))
    subst h1
    rw [List.length_cons, List.replicate_succ, ← h2]
theorem keepL_split {D : List UInt8} (h : D ≠ []) : D = List.replicate (D.length - (keepL D).length) 48 ++ keepL D := by
  unfold keepL
  by_cases hz : dropZ D = []
  · rw [if_pos hz]
    have e := all48 D (dropW_all D hz)
    have hl : 0 < D.length := List.length_pos_iff.2 h
    rw [show ([48] : List UInt8) = List.replicate 1 48 from rfl, List.length_replicate, List.replicate_append_replicate, show D.length - 1 + 1 = D.length by omega]
    exact e
  · rw [if_neg hz]
    exact dropW_split D
theorem keepL_stop (D : List UInt8) : ∃ a r, keepL D = a :: r ∧ (r = [] ∨ a ≠ 48) := by
  unfold keepL
  by_cases hz : dropZ D = []
  · rw [if_pos hz]; exact ⟨48, [], rfl, .inl rfl⟩
  · rw [if_neg hz]
    cases h : dropZ D with
    | nil => exact absurd h hz
    | cons a r => exact ⟨a, r, rfl, .inr (dropZ_head h)⟩
theorem keepT_split (D : List UInt8) : keepL D = keepT D ++ List.replicate ((keepL D).length - (keepT D).length) 48 := by
  unfold keepL keepT
  by_cases hz : dropZ D = []
  · rw [if_pos hz, if_pos hz]; rfl
  · rw [if_neg hz, if_neg hz]; exact cutZ_split _
theorem numT_ne {D : List UInt8} (h : dropZ D ≠ []) : numT D ≠ [] := by
  intro h2
  cases hz : dropZ D with
  | nil => exact h hz
  | cons a r =>
    have := cutZ_nil h2 a (by rw [hz]; simp)
    exact dropZ_head hz this
theorem keepT_stop (D : List UInt8) : ∃ a r, keepT D = r ++ [a] ∧ (r = [] ∨ a ≠ 48) := by
  unfold keepT
  by_cases hz : dropZ D = []
  · rw [if_pos hz]; exact ⟨48, [], rfl, .inl rfl⟩
  · rw [if_neg hz]
    rcases List.eq_nil_or_concat (numT D) with h | ⟨r, a, h⟩
    · exact absurd h (numT_ne hz)
    · rw [List.concat_eq_append] at h
      exact ⟨a, r, h, .inr (cutZ_last h)⟩
theorem keepL_len {D : List UInt8} (h : D ≠ []) : (keepL D).length ≤ D.length := by
  unfold keepL
  have hl : 0 < D.length := List.length_pos_iff.2 h
  split
  · simp; omega
  · exact dropZ_len D
theorem keepT_len (D : List UInt8) : (keepT D).length ≤ (keepL D).length := by
  unfold keepT keepL
  split
  · exact Nat.le_refl _
  · exact cutZ_len _
theorem keepT_dig {D : List UInt8} (h : ∀ b ∈ D, isDig b) : ∀ b ∈ keepT D, isDig b := by
  unfold keepT
  split
  · intro b hb; simp at hb; subst hb; decide
  · exact fun b hb => h b (dropZ_mem (cutZ_mem hb))
/-- The reference's number, where its digits are few. -/
theorem keep_num (neg : Bool) (D : List UInt8) (e : Int) (h : (keepT D).length ≤ 18) : normR (sgnV neg (dval (keepT D))) (e + (((keepL D).length - (keepT D).length : Nat) : Int)) = numG neg D e := by
  unfold numG
  unfold keepT keepL at *
  by_cases hz : dropZ D = []
  · rw [if_pos hz, if_pos hz] at *
    have e0 : numT D = [] := by unfold numT; rw [hz]; rfl
    rw [e0, hz, if_neg (by simp)]
    rfl
  · rw [if_neg hz, if_neg hz] at *
    rw [if_neg (by omega)]
theorem keep_many {D : List UInt8} (h : 18 < (keepT D).length) : 18 < (numT D).length := by
  unfold keepT at h
  split at h
  · simp at h
  · exact h

theorem piece_cons {s : ByteArray} {i m : Nat} (h : i < s.size) : piece s i (m + 1) = s.get! i :: piece s (i + 1) m := by
  unfold piece
  have hl : i < s.data.toList.length := h
  rw [List.drop_eq_getElem_cons hl, List.take_succ_cons]
  congr 1
  rw [← get_get! s i h]
  rfl
theorem mem_piece {s : ByteArray} : ∀ {m i k : Nat}, k < m → i + m ≤ s.size → s.get! (i + k) ∈ piece s i m
  | 0, _, _, h, _ => by omega
  | m + 1, i, 0, _, h => by rw [piece_cons (by omega)]; simp
  | m + 1, i, k + 1, h, h2 => by
    rw [piece_cons (by omega)]
    have := mem_piece (s := s) (m := m) (i := i + 1) (k := k) (by omega) (by omega)
    rw [show i + 1 + k = i + (k + 1) by omega] at this
    exact List.mem_cons_of_mem _ this
theorem itoa_mem {n : Int} {b : UInt8} (h : b ∈ Lib.itoa n) : isDig b ∨ b = 45 := by
  unfold Lib.itoa at h
  split at h
  · rcases List.mem_cons.1 h with rfl | h
    · exact .inr rfl
    · exact .inl (dec_digit _ b h)
  · exact .inl (dec_digit _ b h)
theorem dec_head : ∀ (u : Nat), u ≠ 0 → ∃ a r, Lib.decDigits u = a :: r ∧ a ≠ 48 := by
  intro u
  induction u using Nat.strongRecOn with
  | ind u ih =>
    intro h
    rw [Lib.decDigits]
    split
    · refine ⟨_, [], rfl, fun e => ?_⟩
      have := congrArg UInt8.toNat e
      rw [UInt8.toNat_ofNat'] at this
      simp at this
      omega
    · obtain ⟨a, r, h1, h2⟩ := ih (u / 10) (by omega) (by omega)
      rw [h1]
      exact ⟨a, _, rfl, h2⟩
/-- Where the whole text is a number's own notation there is neither point nor exponent. -/
theorem canon {s : ByteArray} {i : Nat} {n : Int} (hi : i < s.size) (hr : runN s (fAt s i) ≠ fAt s i)
    (h : readZ (s.extract i (expN s (fracN s (wholeAt s (fAt s i))))) = some n) :
    fracN s (wholeAt s (fAt s i)) = wholeAt s (fAt s i) ∧ expN s (fracN s (wholeAt s (fAt s i))) = wholeAt s (fAt s i) ∧ piece s (fAt s i) (wholeAt s (fAt s i) - fAt s i) = Lib.decDigits n.natAbs ∧ (n < 0 ↔ i < fAt s i) := by
  have hf := fAt_le hi
  have ha := wholeAt_le hf.2.2 hr
  have hb := fracN_le ha.2.2
  have hd := expN_le hb.2
  obtain ⟨hn, ht⟩ := readZ_some h
  have hp : piece s i (expN s (fracN s (wholeAt s (fAt s i))) - i) = Lib.itoa n := by
    rw [← extract_piece, show i + (expN s (fracN s (wholeAt s (fAt s i))) - i) = expN s (fracN s (wholeAt s (fAt s i))) by omega, ← ht]
    simp [str]
  have hmem : ∀ k, i ≤ k → k < expN s (fracN s (wholeAt s (fAt s i))) → isDig (s.get! k) ∨ s.get! k = 45 := by
    intro k h1 h2
    have := mem_piece (s := s) (m := expN s (fracN s (wholeAt s (fAt s i))) - i) (i := i) (k := k - i) (by omega) (by omega)
    rw [show i + (k - i) = k by omega, hp] at this
    exact itoa_mem this
  have e1 : fracN s (wholeAt s (fAt s i)) = wholeAt s (fAt s i) := by
    refine Classical.byContradiction fun hne => ?_
    have h46 : (s.get! (wholeAt s (fAt s i))).toNat = 46 := by
      unfold fracN at hne
      split at hne
      · rename_i h3; exact h3.2.1
      · exact absurd rfl hne
    rcases hmem (wholeAt s (fAt s i)) (by omega) (by omega) with h4 | h4
    · unfold isDig at h4; omega
    · rw [h4] at h46; revert h46; decide
  rw [e1] at hd ht hp hmem ⊢
  have e2 : expN s (wholeAt s (fAt s i)) = wholeAt s (fAt s i) := by
    refine Classical.byContradiction fun hne => ?_
    have h46 : (s.get! (wholeAt s (fAt s i))).toNat = 101 ∨ (s.get! (wholeAt s (fAt s i))).toNat = 69 := by
      unfold expN at hne
      split at hne
      · rename_i h3; exact h3.2.1
      · exact absurd rfl hne
    rcases hmem (wholeAt s (fAt s i)) (by omega) (by omega) with h4 | h4
    · unfold isDig at h4; omega
    · rw [h4] at h46; revert h46; decide
  rw [e2] at hd ht hp hmem ⊢
  refine ⟨rfl, rfl, ?_⟩
  obtain ⟨m, hm⟩ : ∃ m, wholeAt s (fAt s i) - i = m + 1 := ⟨wholeAt s (fAt s i) - i - 1, by omega⟩
  rw [hm, piece_cons hi] at hp
  by_cases h0 : n < 0
  · obtain ⟨u, rfl⟩ : ∃ u : Nat, n = -(u : Int) := ⟨n.natAbs, by omega⟩
    rw [itoa_neg u (by omega)] at hp
    injection hp with hp1 hp2
    have hfi : fAt s i = i + 1 := by unfold fAt; rw [hp1]; rfl
    refine ⟨?_, by omega⟩
    rw [hfi] at hm ⊢
    rw [show wholeAt s (i + 1) - (i + 1) = m by omega, hp2, Int.natAbs_neg, Int.natAbs_natCast]
  · obtain ⟨u, rfl⟩ := Int.eq_ofNat_of_zero_le (show 0 ≤ n by omega)
    rw [itoa_pos] at hp
    have hfi : fAt s i = i := by
      have hdg : isDig (s.get! i) := dec_digit u _ (by rw [← hp]; simp)
      unfold fAt
      rw [if_neg (by unfold isDig at hdg; omega)]
    refine ⟨?_, by omega⟩
    rw [hfi] at hm ⊢
    rw [hm, piece_cons hi, hp, Int.natAbs_natCast]
theorem dval_rep (T : List UInt8) : ∀ k : Nat, dval (T ++ List.replicate k 48) = dval T * 10 ^ k
  | 0 => by simp
  | k + 1 => by
    rw [List.replicate_succ', ← List.append_assoc, dval_snoc, dval_rep T k, Nat.pow_succ]
    have : (48 : UInt8).toNat - 48 = 0 := rfl
    rw [this, Nat.add_zero, Nat.mul_comm 10, Nat.mul_assoc]
theorem tmod_snoc {m : Nat} (neg : Bool) (h : m % 10 ≠ 0) : Int.tmod (sgnV neg m) 10 ≠ 0 := by
  unfold sgnV
  split
  · rw [Int.neg_tmod, Int.tmod_eq_emod_of_nonneg (by omega)]; omega
  · rw [Int.tmod_eq_emod_of_nonneg (by omega)]; omega
/-- A number's own digits give the number. -/
theorem keep_canon {n : Int} (hn : -9223372036854775808 ≤ n ∧ n ≤ 9223372036854775807) : normR (sgnV (decide (n < 0)) (dval (keepT (Lib.decDigits n.natAbs)))) ((((keepL (Lib.decDigits n.natAbs)).length - (keepT (Lib.decDigits n.natAbs)).length : Nat) : Int)) = some (V.int n) := by
  by_cases h0 : n = 0
  · subst h0
    have e : Lib.decDigits (Int.natAbs 0) = [48] := by decide +kernel
    rw [e]
    have e1 : keepT [48] = [48] := by decide +kernel
    have e2 : keepL [48] = [48] := by decide +kernel
    rw [e1, e2]
    exact normR_zero (by simp)
  · obtain ⟨a, r, hd, ha⟩ := dec_head n.natAbs (by omega)
    have hz : dropZ (Lib.decDigits n.natAbs) = Lib.decDigits n.natAbs := by
      unfold dropZ
      rw [hd, List.dropWhile_cons_of_neg (by simpa using ha)]
    have hL : keepL (Lib.decDigits n.natAbs) = Lib.decDigits n.natAbs := by
      unfold keepL
      rw [hz, if_neg (dec_ne _)]
    have hT : keepT (Lib.decDigits n.natAbs) = cutZ (Lib.decDigits n.natAbs) := by
      unfold keepT numT
      rw [hz, if_neg (dec_ne _)]
    rw [hL, hT]
    have hsp := cutZ_split (Lib.decDigits n.natAbs)
    have hlen := dec_len n.natAbs (by omega)
    obtain ⟨k, hk⟩ : ∃ k, (Lib.decDigits n.natAbs).length - (cutZ (Lib.decDigits n.natAbs)).length = k := ⟨_, rfl⟩
    rw [hk] at hsp ⊢
    have hv := dval_dec n.natAbs
    rw [hsp, dval_rep] at hv
    rcases List.eq_nil_or_concat (cutZ (Lib.decDigits n.natAbs)) with he | ⟨q, c, he⟩
    · exact absurd he (cutZ_dec (by omega))
    · rw [List.concat_eq_append] at he
      have hc := cutZ_last he
      have hcd : isDig c := dec_digit _ c (cutZ_mem (by rw [he]; simp))
      have hm : dval (cutZ (Lib.decDigits n.natAbs)) % 10 ≠ 0 := by
        rw [he, dval_snoc]
        have : c.toNat ≠ 48 := fun e => hc (UInt8.toNat_inj.1 e)
        unfold isDig at hcd
        omega
      obtain ⟨m, hmm⟩ : ∃ m, dval (cutZ (Lib.decDigits n.natAbs)) = m := ⟨_, rfl⟩
      rw [hmm] at hm hv ⊢
      have hp : 0 < 10 ^ k := Nat.pow_pos (by omega)
      have hmu : m ≤ m * 10 ^ k := Nat.le_mul_of_pos_right m (by omega)
      have hsg : sgnV (decide (n < 0)) m * 10 ^ k = n := by
        have h10 : ((m * 10 ^ k : Nat) : Int) = (m : Int) * 10 ^ k := by push_cast; rfl
        unfold sgnV
        by_cases hneg : n < 0
        · rw [decide_eq_true hneg, if_pos rfl, Int.neg_mul, ← h10, hv]; omega
        · rw [decide_eq_false hneg, if_neg (by simp), ← h10, hv]; omega
      have hr0 : inR (sgnV (decide (n < 0)) m) := by
        unfold sgnV inR
        by_cases hneg : n < 0
        · rw [decide_eq_true hneg, if_pos rfl]; omega
        · rw [decide_eq_false hneg, if_neg (by simp)]; omega
      have hr1 : inR (sgnV (decide (n < 0)) m * 10 ^ k) := by rw [hsg]; unfold inR; omega
      have h1 := normR_of (n := sgnV (decide (n < 0)) m) (e := (k : Int)) (n' := sgnV (decide (n < 0)) m) (k := 0) ⟨by omega, by omega⟩ hr0 (tmod_snoc _ hm) (by simp)
      rw [h1, show (k : Int) + ((0 : Nat) : Int) = (k : Int) by omega, normV_pos_some (by omega) (by rw [Int.toNat_natCast]; exact hr1), Int.toNat_natCast, hsg]
end Go.Proofs.YtbfddabljkoapaaGreatDoor

/-
  ReadNum, plainly: the reference's way comes to the same.
-/
namespace Go.Proofs.YtbfddabljkoapaaGreatDoor
open Go.RowKit
set_option linter.unusedVariables false
set_option linter.unusedSimpArgs false

/-- The value and the place that are handed back. -/
def rdV (r : Option (V × Nat)) : V := match r with | some (v, _) => v | none => V.nought
def rdE (r : Option (V × Nat)) : Int := match r with | some (_, n) => (n : Int) | none => -1
theorem rnP_out {s : ByteArray} {i : Int} (h : ¬ (0 ≤ i ∧ i < s.size)) : rnP s i = none := if_neg fun h2 => h ⟨h2.1, h2.2.1⟩
theorem rnP_no {s : ByteArray} {i : Nat} (h : runN s (fAt s i) = fAt s i) : rnP s i = none := if_neg fun h2 => h2.2.2 (by rw [Int.toNat_natCast]; exact h)
theorem rnP_at {s : ByteArray} {i f a b d : Nat} (hi : i < s.size) (hf : fAt s i = f) (hr : runN s f ≠ f) (ha : wholeAt s f = a) (hb : fracN s a = b) (hd : expN s b = d) : rnP s i = (rnO s i f a b d).map fun v => (v, d) := by
  subst hf ha hb hd
  unfold rnP
  rw [if_pos ⟨by omega, by omega, by rw [Int.toNat_natCast]; exact hr⟩]
  simp only [Int.toNat_natCast]
theorem rnO_far {s : ByteArray} {i f a b d : Nat} (h : 60 < d - i) : rnO s i f a b d = none := if_pos h
theorem powS_nil : powS [] = 0 := rfl
theorem piece_zero (s : ByteArray) (i : Nat) : piece s i 0 = [] := rfl
theorem dgs_whole {s : ByteArray} {f a : Nat} : dgs s f a a = piece s f (a - f) := by unfold dgs; rw [if_neg (by omega), List.append_nil]
theorem rnO_few {s : ByteArray} {i f a b d : Nat} (hi : i < s.size) (hf : fAt s i = f) (hr : runN s f ≠ f) (ha : wholeAt s f = a) (hb : fracN s a = b) (hd : expN s b = d) (h60 : ¬ 60 < d - i) (h18 : (keepT (dgs s f a b)).length ≤ 18) :
    rnO s i f a b d = normR (sgnV (decide (i < f)) (dval (keepT (dgs s f a b)))) (-((b - (a + 1) : Nat) : Int) + (((keepL (dgs s f a b)).length - (keepT (dgs s f a b)).length : Nat) : Int) + powS (piece s b (d - b))) := by
  unfold rnO
  rw [if_neg h60]
  cases hz : readZ (s.extract i d) with
  | none =>
    show numG _ _ _ = _
    rw [← keep_num _ _ _ h18]
    congr 1
    unfold powE
    omega
  | some n =>
    subst hf ha hb hd
    obtain ⟨e1, e2, e3, e4⟩ := canon hi hr hz
    obtain ⟨hn, _⟩ := readZ_some hz
    rw [e1] at h18 e2 ⊢
    rw [e2]
    show some (V.int n) = _
    rw [dgs_whole] at h18 ⊢
    rw [e3] at h18 ⊢
    have h := keep_canon hn
    rw [show decide (i < fAt s i) = decide (n < 0) from decide_eq_decide.2 e4.symm]
    rw [← h, Nat.sub_self, piece_zero, powS_nil]
    congr 1
    omega
theorem rnO_many {s : ByteArray} {i f a b d : Nat} (hi : i < s.size) (hf : fAt s i = f) (hr : runN s f ≠ f) (ha : wholeAt s f = a) (hb : fracN s a = b) (hd : expN s b = d) (h60 : ¬ 60 < d - i) (h18 : 18 < (keepT (dgs s f a b)).length) :
    (∃ n, readZ (s.extract i a) = some n ∧ d ≤ a ∧ rnO s i f a b d = some (V.int n)) ∨ ((readZ (s.extract i a) = none ∨ a < d) ∧ rnO s i f a b d = none) := by
  unfold rnO
  rw [if_neg h60]
  cases hz : readZ (s.extract i d) with
  | none =>
    right
    constructor
    · by_cases had : a < d
      · exact .inr had
      · left
        have hfl := fAt_le hi
        have h1 := wholeAt_le (s := s) (f := f) (by omega) hr
        have h2 := fracN_le (s := s) (a := a) (by omega)
        have h3 := expN_le (s := s) (b := b) (by omega)
        have : d = a := by omega
        rw [← this]
        exact hz
    · show numG _ _ _ = _
      unfold numG
      rw [if_pos (keep_many h18)]
  | some n =>
    left
    subst hf ha hb hd
    obtain ⟨e1, e2, e3, e4⟩ := canon hi hr hz
    have e5 : expN s (fracN s (wholeAt s (fAt s i))) = wholeAt s (fAt s i) := e2
    refine ⟨n, by rw [← e5]; exact hz, by omega, rfl⟩
theorem rd_norm {n e : Int} {d : Nat} : rdV ((normR n e).map fun v => (v, d)) = normD n e ∧ rdE ((normR n e).map fun v => (v, d)) = if normB n e then (d : Int) else -1 := by
  unfold rdV rdE normD normB
  cases normR n e with
  | none => exact ⟨rfl, rfl⟩
  | some v => exact ⟨rfl, rfl⟩
theorem sgnV_range {neg : Bool} {m : Nat} (h : m < 10 ^ 18) : inR (sgnV neg m) ∧ -1000000000000000000 ≤ sgnV neg m ∧ sgnV neg m ≤ 1000000000000000000 := by
  unfold sgnV inR
  split <;> omega
theorem dgs_dig {s : ByteArray} {f a b : Nat} (hf : f ≤ s.size) (hr : runN s f ≠ f) (ha : wholeAt s f = a) (hb : fracN s a = b) : ∀ x ∈ dgs s f a b, isDig x := by
  have h1 := wholeAt_le hf hr
  have h2 := fracN_le (s := s) (a := a) (by omega)
  intro x hx
  unfold dgs at hx
  rcases List.mem_append.1 hx with hx | hx
  · exact piece_dig hf _ (by omega) x hx
  · split at hx
    · rename_i hab
      have hfr : a < s.size ∧ (s.get! a).toNat = 46 ∧ a + 1 < runN s (a + 1) := by
        refine Classical.byContradiction fun hn => ?_
        unfold fracN at hb
        rw [if_neg hn] at hb
        omega
      have hbr : b = runN s (a + 1) := by
        rw [← hb]; unfold fracN; rw [if_pos hfr]
      exact piece_dig (s := s) (i := a + 1) (by omega) _ (by omega) x hx
    · cases hx
theorem dgs_len {s : ByteArray} {f a b : Nat} (h1 : f ≤ a) (h2 : a ≤ s.size) (h3 : b ≤ s.size) : (dgs s f a b).length = (a - f) + (b - (a + 1)) := by
  unfold dgs
  rw [List.length_append, piece_len _ _ _ (by omega)]
  split
  · rw [piece_len _ _ _ (by omega)]
  · simp; omega
end Go.Proofs.YtbfddabljkoapaaGreatDoor

/-
  FnNumber, plainly: a number comes back from its text; one number is told in one way.
-/
namespace Go.Proofs.YtbfddabljkoapaaGreatDoor
open Go.RowKit
set_option linter.unusedVariables false
set_option linter.unusedSimpArgs false

theorem strz (L : List UInt8) : (str L).size = L.length := by simp [str, ByteArray.size]
theorem get_mid (A T : List UInt8) (b : UInt8) : (str (A ++ b :: T)).get! A.length = b := by
  have h : A.length < (str (A ++ b :: T)).size := by rw [strz, List.length_append, List.length_cons]; omega
  rw [← get_get! _ _ h]
  show (A ++ b :: T).toArray[A.length]'(by simp) = b
  simp
/-- What stands behind digits is none. -/
def Stops (R : List UInt8) : Prop := ∀ r R', R = r :: R' → ¬ isDig r
theorem stops_nil : Stops [] := fun r R' h => by cases h
theorem stops_cons {r : UInt8} {R : List UInt8} (h : ¬ isDig r) : Stops (r :: R) := fun _ _ e => by injection e with e1 _; rw [← e1]; exact h
theorem runN_mid : ∀ (W A R : List UInt8), (∀ b ∈ W, isDig b) → Stops R → runN (str (A ++ (W ++ R))) A.length = A.length + W.length
  | [], A, [], _, hR => by
    rw [runN_stop (fun h => by have := h.1; rw [strz] at this; simp at this)]
    all_goals rfl
  | [], A, r :: R, _, hR => by
    rw [runN_stop (fun h => by have h2 := h.2; rw [List.nil_append, get_mid] at h2; exact hR r R rfl h2)]
    all_goals rfl
  | w :: W, A, R, hW, hR => by
    have hg : (str (A ++ (w :: W ++ R))).get! A.length = w := get_mid A (W ++ R) w
    rw [runN_step (by rw [strz]; simp) (by rw [hg]; exact hW w (by simp))]
    have ih := runN_mid W (A ++ [w]) R (fun b hb => hW b (by simp [hb])) hR
    rw [List.append_assoc, List.singleton_append, List.length_append, List.length_singleton] at ih
    rw [List.cons_append, ih, List.length_cons]
    omega
theorem piece_mid (A W R : List UInt8) : piece (str (A ++ (W ++ R))) A.length W.length = W := by
  unfold piece str
  simp
theorem fAt_mid {sg W R : List UInt8} (hs : sg = [] ∨ sg = [45]) (hne : W ≠ []) (hW : ∀ b ∈ W, isDig b) : fAt (str (sg ++ (W ++ R))) 0 = sg.length := by
  rcases hs with rfl | rfl
  · cases W with
    | nil => exact absurd rfl hne
    | cons w W =>
      have hg : (str ([] ++ (w :: W ++ R))).get! 0 = w := get_mid [] (W ++ R) w
      have hd := hW w (by simp)
      unfold fAt
      rw [hg, if_neg (by unfold isDig at hd; omega)]
      rfl
  · have hg : (str ([45] ++ (W ++ R))).get! 0 = 45 := get_mid [] (W ++ R) 45
    unfold fAt
    rw [hg]
    rfl
theorem whole_mid {A W R : List UInt8} {w : UInt8} {r : List UInt8} (he : W = w :: r) (h48 : w ≠ 48 ∨ r = []) (hW : ∀ b ∈ W, isDig b) (hR : Stops R) : wholeAt (str (A ++ (W ++ R))) A.length = A.length + W.length := by
  have hg : (str (A ++ (W ++ R))).get! A.length = w := by rw [he]; exact get_mid A (r ++ R) w
  unfold wholeAt
  rw [hg, runN_mid W A R hW hR]
  split
  · rename_i h
    rcases h48 with h2 | h2
    · exact absurd (UInt8.toNat_inj.1 h) h2
    · rw [he, h2]; rfl
  · rfl
theorem frac_none {A R : List UInt8} (hR : ∀ r R', R = r :: R' → r.toNat ≠ 46) : fracN (str (A ++ R)) A.length = A.length := by
  unfold fracN
  rw [if_neg]
  rintro ⟨h1, h2, _⟩
  cases R with
  | nil => rw [strz] at h1; simp at h1
  | cons r R => rw [get_mid] at h2; exact hR r R rfl h2
theorem frac_some {A F : List UInt8} (hne : F ≠ []) (hF : ∀ b ∈ F, isDig b) : fracN (str (A ++ 46 :: F)) A.length = A.length + 1 + F.length := by
  have hr : runN (str (A ++ 46 :: F)) (A.length + 1) = A.length + 1 + F.length := by
    have h := runN_mid F (A ++ [46]) [] hF stops_nil
    rw [List.append_nil, List.append_assoc, List.singleton_append, List.length_append, List.length_singleton] at h
    exact h
  have hl : 0 < F.length := List.length_pos_iff.2 hne
  unfold fracN
  rw [hr, if_pos ⟨by rw [strz]; simp, by rw [get_mid]; rfl, by omega⟩]
theorem exp_none {A : List UInt8} : expN (str A) A.length = A.length := by
  unfold expN
  rw [if_neg]
  rintro ⟨h1, _⟩
  rw [strz] at h1
  omega
theorem exp_some {A E : List UInt8} (hne : E ≠ []) (hE : ∀ b ∈ E, isDig b) : expN (str (A ++ 101 :: E)) A.length = A.length + 1 + E.length := by
  have hr : runN (str (A ++ 101 :: E)) (A.length + 1) = A.length + 1 + E.length := by
    have h := runN_mid E (A ++ [101]) [] hE stops_nil
    rw [List.append_nil, List.append_assoc, List.singleton_append, List.length_append, List.length_singleton] at h
    exact h
  have hk : expK (str (A ++ 101 :: E)) A.length = A.length + 1 := by
    unfold expK
    rw [if_neg]
    rintro ⟨_, h2⟩
    cases E with
    | nil => exact absurd rfl hne
    | cons x E =>
      have hg : (str (A ++ 101 :: x :: E)).get! (A.length + 1) = x := by
        have h := get_mid (A ++ [101]) E x
        rw [List.append_assoc, List.singleton_append, List.length_append, List.length_singleton] at h
        exact h
      rw [hg] at h2
      have := hE x (by simp)
      unfold isDig at this
      omega
  have hl : 0 < E.length := List.length_pos_iff.2 hne
  unfold expN
  rw [hk, hr, if_pos ⟨by rw [strz]; simp, by rw [get_mid]; exact .inl rfl, by omega⟩]

theorem dec_cut {u : Nat} (h : u % 10 ≠ 0) : numT (Lib.decDigits u) = Lib.decDigits u ∧ dropZ (Lib.decDigits u) = Lib.decDigits u := by
  obtain ⟨a, r, hd, ha⟩ := dec_head u (by omega)
  have hz : dropZ (Lib.decDigits u) = Lib.decDigits u := by
    unfold dropZ
    rw [hd, List.dropWhile_cons_of_neg (by simpa using ha)]
  refine ⟨?_, hz⟩
  unfold numT
  rw [hz]
  have hs := cutZ_split (Lib.decDigits u)
  obtain ⟨k, hk⟩ : ∃ k, (Lib.decDigits u).length - (cutZ (Lib.decDigits u)).length = k := ⟨_, rfl⟩
  rw [hk] at hs
  cases k with
  | zero => rw [List.replicate_zero, List.append_nil] at hs; exact hs.symm
  | succ k =>
    exfalso
    have hv := dval_dec u
    rw [hs, dval_rep, Nat.pow_succ, ← Nat.mul_assoc] at hv
    omega
theorem normR_dec {n e : Int} (h : decOk n e) : normR n e = some (V.dec n e) := by
  have hd := h
  unfold decOk at hd
  obtain ⟨h1, h2, h3, h4, h5, h6, h7⟩ := hd
  have hr : inR n := by unfold inR; omega
  have hk := normR_of (n := n) (e := e) (n' := n) (k := 0) ⟨by omega, by omega⟩ hr h6 (by simp)
  rw [show e + ((0 : Nat) : Int) = e by omega] at hk
  rw [hk]
  refine normV_dec (fun hh => ?_) h
  have ht := h7 (by omega)
  rw [tens_mul _ _ hr, if_pos hh.2] at ht
  cases ht
theorem norm_ten {n e : Int} (hr : inR n) (hr2 : inR (n * 10)) (he : -1000 ≤ e ∧ e ≤ 1000) (he2 : -1000 < e) : normR (n * 10) (e - 1) = normR n e := by
  by_cases h0 : n = 0
  · subst h0
    rw [Int.zero_mul, normR_zero he, normR_zero ⟨by omega, by omega⟩]
  · obtain ⟨n', k, h1, h2⟩ := strip_ex n.natAbs n (Nat.le_refl _) h0
    rw [normR_of he hr h2 h1, normR_of (n := n * 10) (e := e - 1) (n' := n') (k := k + 1) ⟨by omega, by omega⟩ hr2 h2 (by rw [h1, Int.pow_succ, Int.mul_assoc])]
    congr 1
    omega
theorem normR_ok {n e : Int} {v : V} (h : normR n e = some v) : okV v := by
  unfold normR at h
  split at h
  · split at h
    · injection h with h; rw [← h]; exact okV_int 0
    · unfold normV at h
      split at h
      · injection h with h; rw [← h]; exact okV_int _
      · split at h
        · rename_i h2
          injection h with h; rw [← h]; exact (okV_dec _ _).2 h2
        · cases h
  · cases h
theorem norm_ok {n e : Int} (h : normB n e = true) : okV (normD n e) := by
  unfold normB at h
  unfold normD
  cases hn : normR n e with
  | none => rw [hn] at h; cases h
  | some v => exact normR_ok hn
theorem norm_in {n e : Int} (h : normB n e = true) : -1000 ≤ e ∧ e ≤ 1000 := by
  refine Classical.byContradiction fun hn => ?_
  unfold normB at h
  rw [normR_out hn] at h
  cases h
theorem rnO_ok {s : ByteArray} {i f a b d : Nat} {v : V} (h : rnO s i f a b d = some v) : okV v := by
  unfold rnO at h
  split at h
  · cases h
  · split at h
    · injection h with h; rw [← h]; exact okV_int _
    · unfold numG at h
      split at h
      · cases h
      · exact normR_ok h
theorem rnP_ok {s : ByteArray} {i : Int} (h : 0 ≤ rdE (rnP s i)) : okV (rdV (rnP s i)) := by
  unfold rnP at *
  split
  · rename_i hc
    rw [if_pos hc] at h
    cases hn : rnO s i.toNat (fAt s i.toNat) (wholeAt s (fAt s i.toNat)) (fracN s (wholeAt s (fAt s i.toNat))) (expN s (fracN s (wholeAt s (fAt s i.toNat)))) with
    | none => rw [hn] at h; exact absurd h (show ¬ (0 : Int) ≤ -1 by decide)
    | some v => exact rnO_ok hn
  · rename_i hc
    rw [if_neg hc] at h
    exact absurd h (show ¬ (0 : Int) ≤ -1 by decide)
def signL (n : Int) : List UInt8 := if n < 0 then [45] else []
theorem signL_or (n : Int) : signL n = [] ∨ signL n = [45] := by unfold signL; split; exact .inr rfl; exact .inl rfl
theorem signL_len (n : Int) : decide (0 < (signL n).length) = decide (n < 0) := by unfold signL; split <;> simp [*]
theorem itoa_sign (n : Int) : Lib.itoa n = signL n ++ Lib.decDigits n.natAbs := by
  unfold signL
  by_cases h : n < 0
  · obtain ⟨u, rfl⟩ : ∃ u : Nat, n = -(u : Int) := ⟨n.natAbs, by omega⟩
    rw [itoa_neg u (by omega), if_pos h, Int.natAbs_neg, Int.natAbs_natCast]
    rfl
  · obtain ⟨u, rfl⟩ := Int.eq_ofNat_of_zero_le (show 0 ≤ n by omega)
    rw [itoa_pos, if_neg h, Int.natAbs_natCast]
    rfl
theorem sgnV_abs (n : Int) : sgnV (decide (n < 0)) n.natAbs = n := by
  unfold sgnV
  by_cases h : n < 0
  · rw [decide_eq_true h, if_pos rfl]; omega
  · rw [decide_eq_false h, if_neg (by simp)]; omega
theorem dec_first (u : Nat) : ∃ w r, Lib.decDigits u = w :: r ∧ (w ≠ 48 ∨ r = []) := by
  by_cases h : u = 0
  · subst h
    exact ⟨48, [], by decide +kernel, .inr rfl⟩
  · obtain ⟨a, r, h1, h2⟩ := dec_head u h
    exact ⟨a, r, h1, .inl h2⟩
theorem ext_all (s : ByteArray) : s.extract 0 s.size = s := by
  apply ByteArray.ext
  rw [ByteArray.data_extract]
  exact Array.extract_size
theorem readZ_not {L : List UInt8} {b : UInt8} (hb : b ∈ L) (h : ¬ (isDig b ∨ b = 45)) : readZ (str L) = none := by
  cases hr : readZ (str L) with
  | none => rfl
  | some v =>
    have h2 := (readZ_some hr).2
    rw [← str_inj h2] at hb
    exact absurd (itoa_mem hb) h
/-- A whole number comes back from its text. -/
theorem read_int {n : Int} (h : -9223372036854775808 ≤ n ∧ n ≤ 9223372036854775807) : rnP (str (Lib.itoa n)) 0 = some (V.int n, (str (Lib.itoa n)).size) := by
  obtain ⟨w, r, hw, h48⟩ := dec_first n.natAbs
  have hz := readZ_yes h
  have hl := dec_len n.natAbs (by omega)
  have hdig : ∀ b ∈ Lib.decDigits n.natAbs, isDig b := dec_digit _
  have hne := dec_ne n.natAbs
  have hD0 : 0 < (Lib.decDigits n.natAbs).length := List.length_pos_iff.2 hne
  have hsl : (signL n).length ≤ 1 := by rcases signL_or n with e | e <;> simp [e]
  have hlen : (signL n ++ Lib.decDigits n.natAbs).length = (signL n).length + (Lib.decDigits n.natAbs).length := List.length_append
  have e0 : signL n ++ (Lib.decDigits n.natAbs ++ []) = signL n ++ Lib.decDigits n.natAbs := by rw [List.append_nil]
  have h1 := fAt_mid (R := []) (signL_or n) hne hdig
  have h2 := runN_mid (Lib.decDigits n.natAbs) (signL n) [] hdig stops_nil
  have h3 := whole_mid (A := signL n) (R := []) hw h48 hdig stops_nil
  have h4 := frac_none (A := signL n ++ Lib.decDigits n.natAbs) (R := []) (fun _ _ h => by cases h)
  have h5 := exp_none (A := signL n ++ Lib.decDigits n.natAbs)
  rw [e0] at h1 h2 h3
  rw [List.append_nil, hlen] at h4
  rw [hlen] at h5
  rw [itoa_sign] at hz ⊢
  have hsz : (str (signL n ++ Lib.decDigits n.natAbs)).size = (signL n).length + (Lib.decDigits n.natAbs).length := by rw [strz, hlen]
  have key := rnP_at (i := 0) (by omega) h1 (by omega) h3 h4 h5
  rw [show ((0 : Nat) : Int) = 0 from rfl] at key
  rw [key]
  unfold rnO
  rw [if_neg (by omega), ← hsz, ext_all, hz]
  rfl
/-- A number of whole tens. -/
theorem read_big {n e : Int} (h : decOk n e) (he : 0 < e) : rnP (str (signL n ++ (Lib.decDigits n.natAbs ++ (101 :: Lib.decDigits e.natAbs)))) 0 = some (V.dec n e, (str (signL n ++ (Lib.decDigits n.natAbs ++ (101 :: Lib.decDigits e.natAbs)))).size) := by
  have hd := h
  unfold decOk at hd
  obtain ⟨g1, g2, g3, g4, g5, g6, g7⟩ := hd
  obtain ⟨w, r, hw, h48⟩ := dec_first n.natAbs
  have hl : (Lib.decDigits n.natAbs).length ≤ 18 := by rw [Lib.decDigits_length]; exact nDigits_le _ 18 (by omega) (by omega)
  have hle : (Lib.decDigits e.natAbs).length ≤ 2 := by rw [Lib.decDigits_length]; exact nDigits_le _ 2 (by omega) (by omega)
  have hdig : ∀ b ∈ Lib.decDigits n.natAbs, isDig b := dec_digit _
  have hdige : ∀ b ∈ Lib.decDigits e.natAbs, isDig b := dec_digit _
  have hne := dec_ne n.natAbs
  have hnee := dec_ne e.natAbs
  have hm10 : n.natAbs % 10 ≠ 0 := fun hz => g6 (by
    have : n = (n.natAbs : Int) ∨ n = -(n.natAbs : Int) := by omega
    rcases this with e | e
    · rw [e, Int.tmod_eq_emod_of_nonneg (by omega)]; omega
    · rw [e, Int.neg_tmod, Int.tmod_eq_emod_of_nonneg (by omega)]; omega)
  obtain ⟨hc1, hc2⟩ := dec_cut hm10
  have hv := dval_dec n.natAbs
  have hve := dval_dec e.natAbs
  have hN := normR_dec h
  have hS := sgnV_abs n
  have hsl : (signL n).length ≤ 1 := by rcases signL_or n with e | e <;> simp [e]
  have hsd := signL_len n
  have hso := signL_or n
  generalize Lib.decDigits n.natAbs = D at *
  generalize Lib.decDigits e.natAbs = E at *
  generalize signL n = sg at *
  have hD0 : 0 < D.length := List.length_pos_iff.2 hne
  have hst : Stops (101 :: E) := stops_cons (by decide)
  have h1 := fAt_mid (R := 101 :: E) hso hne hdig
  have h2 := runN_mid D sg (101 :: E) hdig hst
  have h3 := whole_mid (A := sg) (R := 101 :: E) hw h48 hdig hst
  have h4 := frac_none (A := sg ++ D) (R := 101 :: E) (fun _ _ h => by injection h with h _; rw [← h]; decide)
  have h5 := exp_some (A := sg ++ D) hnee hdige
  have hp := piece_mid sg D (101 :: E)
  have hpe := piece_mid (sg ++ D) (101 :: E) []
  have hz : readZ (str (sg ++ (D ++ 101 :: E))) = none := readZ_not (b := 101) (by simp) (by decide)
  have hlen : (sg ++ D).length = sg.length + D.length := List.length_append
  rw [List.append_nil, List.append_assoc, hlen] at hpe
  rw [List.append_assoc, hlen] at h4 h5
  have hsz : (str (sg ++ (D ++ 101 :: E))).size = sg.length + D.length + 1 + E.length := by rw [strz]; simp; omega
  have key := rnP_at (i := 0) (by omega) h1 (by omega) h3 h4 h5
  rw [show ((0 : Nat) : Int) = 0 from rfl] at key
  rw [key]
  unfold rnO
  rw [if_neg (by omega), ← hsz, ext_all, hz]
  have hpow : powS (101 :: E) = e := by
    have hpo := powS_of (l := 101 :: E) (x := 101) (sg := []) (DD := E) ⟨rfl, .inl rfl, .inl rfl, hnee, hdige⟩
    rw [if_neg (by simp), (cap_small E 0 0 hdige (by omega) (by omega)).1] at hpo
    rw [hpo]
    have : List.foldl (fun n b => 10 * n + (b.toNat - 48)) 0 E = e.natAbs := hve
    rw [this]
    omega
  have hdg : dgs (str (sg ++ (D ++ 101 :: E))) sg.length (sg.length + D.length) (sg.length + D.length) = D := by
    rw [dgs_whole, show sg.length + D.length - sg.length = D.length by omega, hp]
  have hpw : powE (str (sg ++ (D ++ 101 :: E))) (sg.length + D.length) (sg.length + D.length) (str (sg ++ (D ++ 101 :: E))).size = e := by
    unfold powE
    rw [hsz, show sg.length + D.length + 1 + E.length - (sg.length + D.length) = (101 :: E).length by simp; omega, hpe, hpow]
    omega
  show (numG _ _ _).map _ = _
  rw [hdg, hpw]
  unfold numG
  rw [hc1, hc2, if_neg (by omega), Nat.sub_self, hsd, hv, hS, show e + ((0 : Nat) : Int) = e by omega, hN]
  rfl
/-- A number with a point. -/
theorem read_low {n e : Int} {W F : List UInt8} (h : decOk n e) (he : e < 0) (hWF : W ++ F = List.replicate ((-e).toNat + 1 - (Lib.decDigits n.natAbs).length) 48 ++ Lib.decDigits n.natAbs) (hF : F.length = (-e).toNat) (hW : 0 < W.length) :
    rnP (str (signL n ++ (W ++ (46 :: F)))) 0 = some (V.dec n e, (str (signL n ++ (W ++ (46 :: F)))).size) := by
  have hd := h
  unfold decOk at hd
  obtain ⟨g1, g2, g3, g4, g5, g6, g7⟩ := hd
  have hl : (Lib.decDigits n.natAbs).length ≤ 18 := by rw [Lib.decDigits_length]; exact nDigits_le _ 18 (by omega) (by omega)
  have hm10 : n.natAbs % 10 ≠ 0 := fun hz => g6 (by
    have : n = (n.natAbs : Int) ∨ n = -(n.natAbs : Int) := by omega
    rcases this with e | e
    · rw [e, Int.tmod_eq_emod_of_nonneg (by omega)]; omega
    · rw [e, Int.neg_tmod, Int.tmod_eq_emod_of_nonneg (by omega)]; omega)
  obtain ⟨hc1, hc2⟩ := dec_cut hm10
  obtain ⟨a, r, hh1, hh2⟩ := dec_head n.natAbs (by omega)
  have hdig : ∀ b ∈ Lib.decDigits n.natAbs, isDig b := dec_digit _
  have hv := dval_dec n.natAbs
  have hN := normR_dec h
  have hS := sgnV_abs n
  have hsl : (signL n).length ≤ 1 := by rcases signL_or n with e | e <;> simp [e]
  have hsd := signL_len n
  have hso := signL_or n
  have hdz : dropZ (W ++ F) = Lib.decDigits n.natAbs := by
    rw [hWF]
    generalize (-e).toNat + 1 - (Lib.decDigits n.natAbs).length = k
    induction k with
    | zero => rw [List.replicate_zero, List.nil_append]; exact hc2
    | succ k ih =>
      rw [List.replicate_succ, List.cons_append]
      unfold dropZ
      rw [List.dropWhile_cons_of_pos (by rfl)]
      exact ih
  have hall : ∀ b ∈ W ++ F, isDig b := by
    rw [hWF]
    intro b hb
    rcases List.mem_append.1 hb with hb | hb
    · rw [(List.mem_replicate.1 hb).2]; decide
    · exact hdig b hb
  have hlenWF : W.length + F.length = ((-e).toNat + 1 - (Lib.decDigits n.natAbs).length) + (Lib.decDigits n.natAbs).length := by
    have := congrArg List.length hWF
    simpa using this
  have hfirst : ∃ w r', W = w :: r' ∧ (w ≠ 48 ∨ r' = []) := by
    cases W with
    | nil => simp at hW
    | cons w r' =>
      refine ⟨w, r', rfl, ?_⟩
      by_cases h0 : (-e).toNat + 1 - (Lib.decDigits n.natAbs).length = 0
      · rw [h0, List.replicate_zero, List.nil_append, hh1, List.cons_append] at hWF
        injection hWF with e1 _
        rw [e1]
        exact .inl hh2
      · right
        rw [List.length_cons] at hlenWF
        exact List.length_eq_zero_iff.1 (by omega)
  obtain ⟨w, r', hw, h48⟩ := hfirst
  generalize Lib.decDigits n.natAbs = D at *
  generalize signL n = sg at *
  have hFne : F ≠ [] := by intro h0; rw [h0] at hF; simp at hF; omega
  have hWne : W ≠ [] := by intro h0; rw [h0] at hW; simp at hW
  have hWd : ∀ b ∈ W, isDig b := fun b hb => hall b (by simp [hb])
  have hFd : ∀ b ∈ F, isDig b := fun b hb => hall b (by simp [hb])
  have hst : Stops (46 :: F) := stops_cons (by decide)
  have h1 := fAt_mid (R := 46 :: F) hso hWne hWd
  have h2 := runN_mid W sg (46 :: F) hWd hst
  have h3 := whole_mid (A := sg) (R := 46 :: F) hw h48 hWd hst
  have h4 := frac_some (A := sg ++ W) hFne hFd
  have h5 := exp_none (A := sg ++ (W ++ 46 :: F))
  have hp := piece_mid sg W (46 :: F)
  have hpf := piece_mid (sg ++ (W ++ [46])) F []
  have hz : readZ (str (sg ++ (W ++ 46 :: F))) = none := readZ_not (b := 46) (by simp) (by decide)
  have hlen : (sg ++ W).length = sg.length + W.length := List.length_append
  have hlen2 : (sg ++ (W ++ 46 :: F)).length = sg.length + W.length + 1 + F.length := by simp; omega
  have hlen3 : (sg ++ (W ++ [46])).length = sg.length + W.length + 1 := by simp; omega
  rw [List.append_nil, hlen3, List.append_assoc, List.append_assoc, List.singleton_append] at hpf
  rw [List.append_assoc, hlen] at h4
  rw [hlen2] at h5
  have hsz : (str (sg ++ (W ++ 46 :: F))).size = sg.length + W.length + 1 + F.length := by rw [strz, hlen2]
  have key := rnP_at (i := 0) (by omega) h1 (by omega) h3 h4 h5
  rw [show ((0 : Nat) : Int) = 0 from rfl] at key
  rw [key]
  unfold rnO
  rw [if_neg (by omega), ← hsz, ext_all, hz]
  have hdg : dgs (str (sg ++ (W ++ 46 :: F))) sg.length (sg.length + W.length) (str (sg ++ (W ++ 46 :: F))).size = W ++ F := by
    unfold dgs
    rw [hsz, show sg.length + W.length - sg.length = W.length by omega, hp, if_pos (by omega), show sg.length + W.length + 1 + F.length - (sg.length + W.length + 1) = F.length by omega, hpf]
  have hpw : powE (str (sg ++ (W ++ 46 :: F))) (sg.length + W.length) (str (sg ++ (W ++ 46 :: F))).size (str (sg ++ (W ++ 46 :: F))).size = e := by
    unfold powE
    rw [Nat.sub_self, piece_zero, powS_nil, hsz, show sg.length + W.length + 1 + F.length - (sg.length + W.length + 1) = F.length by omega, hF]
    omega
  show (numG _ _ _).map _ = _
  rw [hdg, hpw]
  unfold numG numT
  rw [hdz]
  have hc3 : cutZ D = D := by unfold numT at hc1; rw [hc2] at hc1; exact hc1
  rw [hc3, if_neg (by omega), Nat.sub_self, hsd, hv, hS, show e + ((0 : Nat) : Int) = e by omega, hN]
  rfl
end Go.Proofs.YtbfddabljkoapaaGreatDoor

/-
  A tree whose rows lie each in a block of its own; the tree marked.
-/
namespace Go.Proofs.YtbfddabljkoapaaGreatDoor
open Go.RowKit
set_option linter.unusedVariables false
set_option linter.unusedSimpArgs false

/-- A block whose cells may be stored into. -/
def soft (w : World) (b : Nat) : Prop := ∀ q, w.frozen? ⟨b, q, none⟩ = false
theorem soft_same {w w' : World} {b : Nat} (h : soft w b) (hb : w'.heap[b]? = w.heap[b]?) : soft w' b := fun q => by
  have := h q
  unfold World.frozen? at this ⊢
  rw [hb]
  exact this
theorem soft_own {w : World} {base g c n size : Nat} {e : TypeId} {xs : List Value} (h : w.ownsRow base e size (.slice (some ⟨g, 0, none⟩) n c) n xs) : soft w g := fun q => h.frozenAt q

mutual
/-- The kids' rows of a value, each in a block of its own; F: the blocks. -/
def V.lies (w : World) : V → Option Addr → List Nat → Prop
  | .mk _ _ _ _ ks, A, F => (ks = [] ∧ F = []) ∨ ∃ b G, A = some ⟨b, 0, none⟩ ∧ F = b :: G ∧ b < w.heap.size ∧ soft w b ∧ Vs.cells w b 0 ks G
def Vs.cells (w : World) (b : Nat) : Nat → List V → List Nat → Prop
  | _, [], G => G = []
  | off, v :: r, G => ∃ A' cap G1 G2, G = G1 ++ G2 ∧ v.kids.length ≤ cap ∧ CellsAt w b off v A' cap ∧ V.lies w v A' G1 ∧ Vs.cells w b (off + 5) r G2
end
def Vs.lies (w : World) (l : List V) (A : Option Addr) (F : List Nat) : Prop := (l = [] ∧ F = []) ∨ ∃ b G, A = some ⟨b, 0, none⟩ ∧ F = b :: G ∧ b < w.heap.size ∧ soft w b ∧ Vs.cells w b 0 l G
theorem V.lies_kids {w : World} {v : V} {A : Option Addr} {F : List Nat} : V.lies w v A F ↔ Vs.lies w v.kids A F := by
  cases v; simp only [V.lies, Vs.lies, V.kids]

/-- What says nothing of other blocks. -/
def SameIn (F : List Nat) (w w' : World) : Prop := w.heap.size ≤ w'.heap.size ∧ ∀ b ∈ F, w'.heap[b]? = w.heap[b]?
theorem cells_keep {w w' : World} {b off : Nat} {v : V} {A : Option Addr} {c : Nat} (h : CellsAt w b off v A c) (hb : w'.heap[b]? = w.heap[b]?) : CellsAt w' b off v A c :=
  h.keep fun q _ => World.cell?_of_block hb
mutual
theorem V.lies_same {w w' : World} : ∀ (v : V) (A : Option Addr) (F : List Nat), V.lies w v A F → SameIn F w w' → V.lies w' v A F
  | .mk _ _ _ _ ks, A, F, h, hs => by
    simp only [V.lies] at h ⊢
    rcases h with h | ⟨b, G, h1, rfl, h3, h4, h5⟩
    · exact .inl h
    · have hb := hs.2 b (by simp)
      exact .inr ⟨b, G, h1, rfl, Nat.lt_of_lt_of_le h3 hs.1, soft_same h4 hb, Vs.cells_same b 0 ks G h5 hb ⟨hs.1, fun c hc => hs.2 c (by simp [hc])⟩⟩
theorem Vs.cells_same {w w' : World} (b : Nat) : ∀ (off : Nat) (l : List V) (G : List Nat), Vs.cells w b off l G → w'.heap[b]? = w.heap[b]? → SameIn G w w' → Vs.cells w' b off l G
  | _, [], G, h, _, _ => by simp only [Vs.cells] at h ⊢; exact h
  | off, v :: r, G, h, hb, hs => by
    simp only [Vs.cells] at h ⊢
    obtain ⟨A', cap, G1, G2, rfl, h2, h3, h4, h5⟩ := h
    exact ⟨A', cap, G1, G2, rfl, h2, cells_keep h3 hb, V.lies_same v A' G1 h4 ⟨hs.1, fun c hc => hs.2 c (by simp [hc])⟩, Vs.cells_same b (off + 5) r G2 h5 hb ⟨hs.1, fun c hc => hs.2 c (by simp [hc])⟩⟩
end
theorem Vs.lies_same {w w' : World} {l : List V} {A : Option Addr} {F : List Nat} (h : Vs.lies w l A F) (hs : SameIn F w w') : Vs.lies w' l A F := by
  have h1 : V.lies w (.mk 0 0 0 ⟨#[]⟩ l) A F := V.lies_kids.2 h
  exact V.lies_kids.1 (V.lies_same _ A F h1 hs)

/-- One value of a row, and what it takes to put another into its place. -/
theorem Vs.cells_at {w : World} {b : Nat} : ∀ (L : List V) (off : Nat) (G : List Nat) (j : Nat) (h : j < L.length), Vs.cells w b off L G →
    ∃ A' cap G1 Gj G2, G = G1 ++ (Gj ++ G2) ∧ (L[j]).kids.length ≤ cap ∧ CellsAt w b (off + j * 5) L[j] A' cap ∧ V.lies w L[j] A' Gj ∧
      ∀ (w' : World) (v' : V), v'.kids.length = (L[j]).kids.length → CellsAt w' b (off + j * 5) v' A' cap → V.lies w' v' A' Gj →
        (∀ q, (q < off + j * 5 ∨ off + j * 5 + 5 ≤ q) → w'.cell? ⟨b, q, none⟩ = w.cell? ⟨b, q, none⟩) → SameIn (G1 ++ G2) w w' → Vs.cells w' b off (L.set j v') G
  | v :: r, off, G, 0, _, h => by
    simp only [Vs.cells] at h
    obtain ⟨A', cap, G1, G2, rfl, h2, h3, h4, h5⟩ := h
    refine ⟨A', cap, [], G1, G2, by simp, by simpa using h2, by simpa using h3, h4, fun w' v' k1 k2 k3 k4 k5 => ?_⟩
    simp only [List.set_cons_zero, Vs.cells]
    refine ⟨A', cap, G1, G2, rfl, by rw [k1]; exact h2, by simpa using k2, k3, ?_⟩
    have key : ∀ (off' : Nat) (l : List V) (G : List Nat), off + 5 ≤ off' → (∀ c ∈ G, c ∈ G2) → Vs.cells w b off' l G → Vs.cells w' b off' l G := by
      intro off' l
      induction l generalizing off' with
      | nil => intro G _ _ h; simp only [Vs.cells] at h ⊢; exact h
      | cons a l ih =>
        intro G ho hG h
        simp only [Vs.cells] at h ⊢
        obtain ⟨A', cap, H1, H2, rfl, m2, m3, m4, m5⟩ := h
        exact ⟨A', cap, H1, H2, rfl, m2, m3.keep fun q hq => k4 _ (.inr (by omega)), V.lies_same _ _ _ m4 ⟨k5.1, fun c hc => k5.2 c (by simpa using hG c (by simp [hc]))⟩, ih (off' + 5) H2 (by omega) (fun c hc => hG c (by simp [hc])) m5⟩
    exact key (off + 5) r G2 (Nat.le_refl _) (fun c hc => hc) h5
  | v :: r, off, G, j + 1, hj, h => by
    simp only [Vs.cells] at h
    obtain ⟨A', cap, G1, G2, rfl, h2, h3, h4, h5⟩ := h
    obtain ⟨B, cap', H1, Hj, H2, rfl, m2, m3, m4, m5⟩ := Vs.cells_at r (off + 5) G2 j (by simpa using hj) h5
    have he : off + 5 + j * 5 = off + (j + 1) * 5 := by omega
    rw [he] at m3 m5
    refine ⟨B, cap', G1 ++ H1, Hj, H2, by simp, by simpa using m2, by simpa using m3, by simpa using m4, fun w' v' k1 k2 k3 k4 k5 => ?_⟩
    simp only [List.set_cons_succ, Vs.cells]
    refine ⟨A', cap, G1, H1 ++ (Hj ++ H2), by simp, h2, h3.keep fun q hq => k4 _ (.inl (by omega)), V.lies_same _ _ _ h4 ⟨k5.1, fun c hc => k5.2 c (by simp [hc])⟩, m5 w' v' (by simpa using k1) k2 k3 k4 ⟨k5.1, fun c hc => k5.2 c (by simp at hc ⊢; rcases hc with h | h <;> simp [h])⟩⟩
mutual
theorem V.lies_lt {w : World} : ∀ (v : V) (A : Option Addr) (F : List Nat), V.lies w v A F → ∀ c ∈ F, c < w.heap.size
  | .mk _ _ _ _ ks, A, F, h, c, hc => by
    simp only [V.lies] at h
    rcases h with ⟨_, rfl⟩ | ⟨b, G, h1, rfl, h3, h4, h5⟩
    · cases hc
    · rcases List.mem_cons.1 hc with rfl | hc
      · exact h3
      · exact Vs.cells_lt b 0 ks G h5 c hc
theorem Vs.cells_lt {w : World} (b : Nat) : ∀ (off : Nat) (l : List V) (G : List Nat), Vs.cells w b off l G → ∀ c ∈ G, c < w.heap.size
  | _, [], G, h, c, hc => by simp only [Vs.cells] at h; subst h; cases hc
  | off, v :: r, G, h, c, hc => by
    simp only [Vs.cells] at h
    obtain ⟨A', cap, G1, G2, rfl, h2, h3, h4, h5⟩ := h
    rcases List.mem_append.1 hc with hc | hc
    · exact V.lies_lt v A' G1 h4 c hc
    · exact Vs.cells_lt b (off + 5) r G2 h5 c hc
end
theorem lies_below {w w' : World} {l : List V} {A : Option Addr} {F : List Nat} (h : Vs.lies w l A F) {B : Nat} (hb : Below B w w') (hB : ∀ c ∈ F, c < B) : Vs.lies w' l A F :=
  Vs.lies_same h ⟨hb.size, fun c hc => hb.block c (hB c hc)⟩
theorem lies_lt {w : World} {l : List V} {A : Option Addr} {F : List Nat} (h : Vs.lies w l A F) : ∀ c ∈ F, c < w.heap.size := by
  have h1 : V.lies w (.mk 0 0 0 ⟨#[]⟩ l) A F := V.lies_kids.2 h
  exact V.lies_lt _ A F h1
mutual
theorem V.lies_at {w : World} {lo : Nat} : ∀ (v : V) (A : Option Addr) (F : List Nat), V.lies w v A F → (∀ c ∈ F, lo ≤ c) → V.at_ w lo w.heap.size v A
  | .mk _ _ _ _ ks, A, F, h, hF => by
    simp only [V.lies] at h
    simp only [V.at_]
    rcases h with ⟨rfl, rfl⟩ | ⟨b, G, rfl, rfl, h3, h4, h5⟩
    · simp only [Vs.at_]
    · exact Vs.cells_at_ b 0 ks G h5 (hF b (by simp)) h3 (fun c hc => hF c (by simp [hc]))
theorem Vs.cells_at_ {w : World} {lo : Nat} (b : Nat) : ∀ (off : Nat) (l : List V) (G : List Nat), Vs.cells w b off l G → lo ≤ b → b < w.heap.size → (∀ c ∈ G, lo ≤ c) → Vs.at_ w lo w.heap.size l (some ⟨b, off, none⟩)
  | _, [], G, h, _, _, _ => by simp only [Vs.at_]
  | off, v :: r, G, h, h1, h2, hG => by
    simp only [Vs.cells] at h
    simp only [Vs.at_]
    obtain ⟨A', cap, G1, G2, rfl, k2, k3, k4, k5⟩ := h
    exact ⟨b, off, A', cap, rfl, h1, h2, k2, k3, V.lies_at v A' G1 k4 (fun c hc => hG c (by simp [hc])), Vs.cells_at_ b (off + 5) r G2 k5 h1 h2 (fun c hc => hG c (by simp [hc]))⟩
end
theorem Vs.lies_at {w : World} {lo : Nat} {l : List V} {A : Option Addr} {F : List Nat} (h : Vs.lies w l A F) (hF : ∀ c ∈ F, lo ≤ c) : Vs.at_ w lo w.heap.size l A := by
  have h1 : V.lies w (.mk 0 0 0 ⟨#[]⟩ l) A F := V.lies_kids.2 h
  have h2 := V.lies_at _ A F h1 hF
  simpa only [V.at_] using h2
/-- One value more at the end of a row. -/
theorem Vs.cells_snoc {w : World} {b : Nat} {v : V} {A : Option Addr} {cap : Nat} {Gj : List Nat} (hc : v.kids.length ≤ cap) (hl : V.lies w v A Gj) : ∀ (l : List V) (off : Nat) (G : List Nat), Vs.cells w b off l G → CellsAt w b (off + l.length * 5) v A cap →
    Vs.cells w b off (l ++ [v]) (G ++ Gj)
  | [], off, G, h, h1 => by
    simp only [Vs.cells] at h
    subst h
    simp only [List.nil_append, Vs.cells]
    exact ⟨A, cap, Gj, [], by simp, hc, by simpa using h1, hl, rfl⟩
  | a :: l, off, G, h, h1 => by
    simp only [Vs.cells] at h
    obtain ⟨A', cap', G1, G2, rfl, k2, k3, k4, k5⟩ := h
    simp only [List.cons_append, Vs.cells]
    refine ⟨A', cap', G1, G2 ++ Gj, by simp, k2, k3, k4, Vs.cells_snoc hc hl l (off + 5) G2 k5 ?_⟩
    rw [show off + 5 + l.length * 5 = off + (a :: l).length * 5 by simp; omega]
    exact h1
/-- A row of which the cells are as they were. -/
theorem Vs.cells_front {w w' : World} {b : Nat} : ∀ (l : List V) (off : Nat) (G : List Nat), Vs.cells w b off l G → (∀ q, q < off + l.length * 5 → w'.cell? ⟨b, q, none⟩ = w.cell? ⟨b, q, none⟩) → SameIn G w w' → Vs.cells w' b off l G
  | [], off, G, h, _, _ => by simp only [Vs.cells] at h ⊢; exact h
  | a :: l, off, G, h, h1, h2 => by
    simp only [Vs.cells] at h ⊢
    obtain ⟨A', cap', G1, G2, rfl, k2, k3, k4, k5⟩ := h
    exact ⟨A', cap', G1, G2, rfl, k2, k3.keep fun q hq => h1 _ (by simp; omega), V.lies_same _ _ _ k4 ⟨h2.1, fun c hc => h2.2 c (by simp [hc])⟩,
      Vs.cells_front l (off + 5) G2 k5 (fun q hq => h1 q (by simp; omega)) ⟨h2.1, fun c hc => h2.2 c (by simp [hc])⟩⟩
end Go.Proofs.YtbfddabljkoapaaGreatDoor

/-
  What a value is made of.
-/
namespace Go.Proofs.YtbfddabljkoapaaGreatDoor
open Go.RowKit
set_option maxRecDepth 100000

theorem infoV : (Tryz.prog.info? 43).map (fun i => (i.zero, i.size, i.bytes)) = some (some (.agg #[.int .i64 0, .int .i64 0, .int .i64 0, .string ⟨#[]⟩, .slice none 0 0]), 5, 64) := by kernel_rfl
end Go.Proofs.YtbfddabljkoapaaGreatDoor

/-
  A row of values that grows by appends: its cells, and where the values' own rows lie.
-/
namespace Go.Proofs.YtbfddabljkoapaaGreatDoor
open Go.RowKit
set_option linter.unusedVariables false
set_option linter.unusedSimpArgs false

/-- A value, where its kids lie, and the room there. -/
abbrev Ent := V × Option Addr × Nat
def Ent.cells (x : Ent) : List Value := [.int .i64 x.1.k, .int .i64 x.1.n, .int .i64 x.1.e, .string x.1.s, .slice x.2.1 x.1.kids.length x.2.2]
def flat (es : List Ent) : List Value := es.flatMap Ent.cells
theorem flat_len (es : List Ent) : (flat es).length = es.length * 5 := by
  induction es with
  | nil => rfl
  | cons a l ih => simp only [flat, List.flatMap_cons, List.length_append, List.length_cons] at *; rw [ih]; simp [Ent.cells]; omega
theorem flat_append (a b : List Ent) : flat (a ++ b) = flat a ++ flat b := by simp [flat]
theorem flat_one (x : Ent) : flat [x] = x.cells := by simp [flat]
theorem flat_ones (es : List Ent) : ∀ u ∈ flat es, u.oneCell' = true := by
  intro u hu
  obtain ⟨x, _, hx⟩ := List.mem_flatMap.1 hu
  simp [Ent.cells] at hx
  rcases hx with rfl | rfl | rfl | rfl | rfl <;> rfl
theorem flat_at (es : List Ent) : ∀ (j q : Nat) (h : j < es.length), q < 5 → (flat es)[j * 5 + q]? = (es[j].cells)[q]? := by
  induction es with
  | nil => intro j q h; simp at h
  | cons a l ih =>
    intro j q h hq
    have e : flat (a :: l) = a.cells ++ flat l := rfl
    have hl : a.cells.length = 5 := rfl
    rw [e]
    cases j with
    | zero => rw [List.getElem?_append_left (by omega)]; simp
    | succ j =>
      rw [List.getElem?_append_right (by omega), show (j + 1) * 5 + q - a.cells.length = j * 5 + q by omega, ih j q (by simpa using h) hq]
      rfl

/-- Each value's kids' rows, in blocks of their own. -/
def kidsLie (w : World) : List Ent → List Nat → Prop
  | [], G => G = []
  | x :: r, G => ∃ G1 G2, G = G1 ++ G2 ∧ x.1.kids.length ≤ x.2.2 ∧ V.lies w x.1 x.2.1 G1 ∧ kidsLie w r G2
theorem kidsLie_lt {w : World} : ∀ (es : List Ent) (G : List Nat), kidsLie w es G → ∀ c ∈ G, c < w.heap.size
  | [], G, h, c, hc => by simp only [kidsLie] at h; subst h; cases hc
  | x :: r, G, h, c, hc => by
    simp only [kidsLie] at h
    obtain ⟨G1, G2, rfl, _, h3, h4⟩ := h
    rcases List.mem_append.1 hc with hc | hc
    · exact V.lies_lt _ _ _ h3 c hc
    · exact kidsLie_lt r G2 h4 c hc
theorem kidsLie_same {w w' : World} : ∀ (es : List Ent) (G : List Nat), kidsLie w es G → SameIn G w w' → kidsLie w' es G
  | [], G, h, _ => by simp only [kidsLie] at h ⊢; exact h
  | x :: r, G, h, hs => by
    simp only [kidsLie] at h ⊢
    obtain ⟨G1, G2, rfl, h2, h3, h4⟩ := h
    exact ⟨G1, G2, rfl, h2, V.lies_same _ _ _ h3 ⟨hs.1, fun c hc => hs.2 c (by simp [hc])⟩, kidsLie_same r G2 h4 ⟨hs.1, fun c hc => hs.2 c (by simp [hc])⟩⟩
theorem kidsLie_append {w : World} : ∀ (a b : List Ent) (G H : List Nat), kidsLie w a G → kidsLie w b H → kidsLie w (a ++ b) (G ++ H)
  | [], b, G, H, h, h' => by simp only [kidsLie] at h; subst h; simpa using h'
  | x :: r, b, G, H, h, h' => by
    simp only [kidsLie] at h
    simp only [List.cons_append, kidsLie]
    obtain ⟨G1, G2, rfl, h2, h3, h4⟩ := h
    exact ⟨G1, G2 ++ H, by simp, h2, h3, kidsLie_append r b G2 H h4 h'⟩
theorem kidsLie_one {w : World} {v : V} {A : Option Addr} {c : Nat} {F : List Nat} (hc : v.kids.length ≤ c) (h : Vs.lies w v.kids A F) : kidsLie w [(v, A, c)] F := by
  simp only [kidsLie]
  exact ⟨F, [], by simp, hc, V.lies_kids.2 h, rfl⟩
theorem kidsLie_cells {w : World} {g : Nat} : ∀ (es : List Ent) (off : Nat) (G : List Nat), (∀ q, q < es.length * 5 → w.cell? ⟨g, off + q, none⟩ = (flat es)[q]?) → kidsLie w es G → Vs.cells w g off (es.map (·.1)) G
  | [], off, G, _, h => by simp only [kidsLie] at h; simpa only [List.map_nil, Vs.cells] using h
  | x :: r, off, G, hc, h => by
    simp only [kidsLie] at h
    simp only [List.map_cons, Vs.cells]
    obtain ⟨G1, G2, rfl, h2, h3, h4⟩ := h
    have e : ∀ q, q < 5 → w.cell? ⟨g, off + q, none⟩ = (x.cells)[q]? := fun q hq => by
      rw [hc q (by simp; omega)]
      have := flat_at (x :: r) 0 q (by simp) hq
      simpa using this
    refine ⟨x.2.1, x.2.2, G1, G2, rfl, h2, ⟨e 0 (by omega), e 1 (by omega), e 2 (by omega), e 3 (by omega), e 4 (by omega)⟩, h3, kidsLie_cells r (off + 5) G2 (fun q hq => ?_) h4⟩
    rw [show off + 5 + q = off + (q + 5) by omega, hc (q + 5) (by simp; omega)]
    have e2 : flat (x :: r) = x.cells ++ flat r := rfl
    rw [e2, List.getElem?_append_right (by show 5 ≤ q + 5; omega)]
    rfl

/-- A row of values of the call's own. -/
structure RowOf (w : World) (base : Nat) (o : Value) (es : List Ent) (G : List Nat) : Prop where
  own : w.ownsRow base 43 5 o es.length (flat es)
  kids : kidsLie w es G
  nodup : G.Nodup
  low : ∀ c ∈ G, base ≤ c
  apart : ∀ g, o.ownBlock = some g → g ∉ G
theorem RowOf.lt {w : World} {base : Nat} {o : Value} {es : List Ent} {G : List Nat} (h : RowOf w base o es G) : ∀ c ∈ G, c < w.heap.size := kidsLie_lt es G h.kids
theorem RowOf.below {w w' : World} {base : Nat} {o : Value} {es : List Ent} {G : List Nat} (h : RowOf w base o es G) {B : Nat} (hB : w.heap.size ≤ B) (hb : Below B w w') : RowOf w' base o es G :=
  ⟨own_below' h.own hB hb, kidsLie_same es G h.kids ⟨hb.size, fun c hc => hb.block c (Nat.lt_of_lt_of_le (h.lt c hc) hB)⟩, h.nodup, h.low, h.apart⟩
theorem RowOf.alloc {w : World} {base : Nat} {o : Value} {es : List Ent} {G : List Nat} (h : RowOf w base o es G) (ob : Obj) : RowOf (w.alloc ob) base o es G :=
  h.below (Nat.le_refl _) ((Below.refl _ w).alloc (Nat.le_refl _) ob)
/-- The row as kids of a value. -/
theorem RowOf.lies {w : World} {base : Nat} {o : Value} {es : List Ent} {G : List Nat} (h : RowOf w base o es G) : ∃ A c F, o = .slice A es.length c ∧ es.length ≤ c ∧ Vs.lies w (es.map (·.1)) A F ∧ F.Nodup ∧ (∀ x ∈ F, base ≤ x) := by
  have hown := h.own
  rcases hown.2 with ⟨rfl, h0⟩ | ⟨g, c, cur, rfl, h1, h2, h3, h4⟩
  · have he : es = [] := List.eq_nil_of_length_eq_zero h0
    subst he
    exact ⟨none, 0, [], rfl, Nat.le_refl _, .inl ⟨rfl, rfl⟩, List.nodup_nil, fun x hx => by cases hx⟩
  · refine ⟨some ⟨g, 0, none⟩, c, g :: G, rfl, by omega, .inr ⟨g, G, rfl, rfl, (hown.lt g rfl).2, soft_own hown, ?_⟩, List.nodup_cons.2 ⟨h.apart g rfl, h.nodup⟩, fun x hx => ?_⟩
    · refine kidsLie_cells es 0 G (fun q hq => ?_) h.kids
      rw [Nat.zero_add]
      exact hown.cellAt q (by omega)
    · rcases List.mem_cons.1 hx with rfl | hx
      · exact h1
      · exact h.low x hx
/-- A value appended. -/
theorem RowOf.push {w w1 w' : World} {base : Nat} {o v' : Value} {es : List Ent} {G : List Nat} (h : RowOf w base o es G) {v : V} {A : Option Addr} {c : Nat} {F : List Nat} (hc : v.kids.length ≤ c) (hl : Vs.lies w v.kids A F)
    (hnd : F.Nodup) (hF : ∀ x ∈ F, base ≤ x) (hFG : ∀ x ∈ F, x ∉ G) (hFo : ∀ g, o.ownBlock = some g → g ∉ F) (h1 : Below w.heap.size w w1)
    (hown' : w'.ownsRow base 43 5 v' (es.length + 1) (flat es ++ Ent.cells (v, A, c))) (hg : w1.grownBy w' o.ownBlock) (hv : v'.ownBlock = o.ownBlock ∨ v'.ownBlock = some w1.heap.size) :
    RowOf w' base v' (es ++ [(v, A, c)]) (G ++ F) := by
  have hlt := h.lt
  have hFl : ∀ x ∈ F, x < w.heap.size := lies_lt hl
  have same : ∀ x, x < w.heap.size → (∀ g, o.ownBlock = some g → x ≠ g) → w'.heap[x]? = w.heap[x]? := fun x hx hn => by
    rw [hg.block x (Nat.lt_of_lt_of_le hx h1.size) (fun e => hn x e.symm rfl), h1.block x hx]
  have hsz : w.heap.size ≤ w'.heap.size := Nat.le_trans h1.size hg.size
  refine ⟨?_, kidsLie_append _ _ _ _ (kidsLie_same es G h.kids ⟨hsz, fun x hx => same x (hlt x hx) (fun g hg' e => h.apart g hg' (e ▸ hx))⟩) (kidsLie_one hc (Vs.lies_same hl ⟨hsz, fun x hx => same x (hFl x hx) (fun g hg' e => hFo g hg' (e ▸ hx))⟩)), ?_, ?_, ?_⟩
  · rw [List.length_append, flat_append, flat_one]; exact hown'
  · exact List.nodup_append.2 ⟨h.nodup, hnd, fun a ha b hb e => hFG b hb (e ▸ ha)⟩
  · intro x hx
    rcases List.mem_append.1 hx with hx | hx
    · exact h.low x hx
    · exact hF x hx
  · intro g hg' hx
    have hgl : g < w.heap.size := by
      rcases List.mem_append.1 hx with hx | hx
      · exact hlt g hx
      · exact hFl g hx
    rcases hv with e | e
    · rw [e] at hg'
      rcases List.mem_append.1 hx with hx | hx
      · exact h.apart g hg' hx
      · exact hFo g hg' hx
    · rw [e] at hg'
      injection hg' with hg'
      have := h1.size
      omega
theorem RowOf.none {w : World} {base : Nat} {o : Value} (h : w.ownsRow base 43 5 o 0 []) : RowOf w base o [] [] :=
  ⟨h, rfl, List.nodup_nil, (fun _ h => by cases h), (fun _ _ h => by cases h)⟩
end Go.Proofs.YtbfddabljkoapaaGreatDoor

/-
  A slice of one-cell elements, wherever it lies; slices of numbers, texts and bytes that came in.
-/
namespace Go.Proofs.YtbfddabljkoapaaGreatDoor
open Go.RowKit Go.ChangeShapes Go.WideShapes
set_option linter.unusedVariables false
set_option maxRecDepth 100000

/-- The cells of a slice. -/
def At1 (w : World) (hi : Nat) (A : Option Addr) (xs : List Value) : Prop := xs = [] ∨ ∃ b off, A = some ⟨b, off, none⟩ ∧ b < hi ∧ ∀ j (h : j < xs.length), w.cell? ⟨b, off + j, none⟩ = some xs[j]
theorem At1.below {w w' : World} {hi B : Nat} {A : Option Addr} {xs : List Value} (h : At1 w hi A xs) (hb : Below B w w') (hB : hi ≤ B) : At1 w' hi A xs := by
  rcases h with h | ⟨b, off, h1, h2, h3⟩
  · exact .inl h
  · exact .inr ⟨b, off, h1, h2, fun j hj => (hb.cell (p := ⟨b, off + j, none⟩) (Nat.lt_of_lt_of_le h2 hB)).trans (h3 j hj)⟩
theorem At1.get {w : World} {hi : Nat} {A : Option Addr} {xs : List Value} (h : At1 w hi A xs) {j : Nat} (hj : j < xs.length) : ∃ b off, A = some ⟨b, off, none⟩ ∧ b < hi ∧ w.cell? ⟨b, off + j, none⟩ = some xs[j] := by
  rcases h with rfl | ⟨b, off, h1, h2, h3⟩
  · cases hj
  · exact ⟨b, off, h1, h2, h3 j hj⟩
theorem At1.own {w : World} {base c : Nat} {A : Option Addr} {e : TypeId} {n : Nat} {xs : List Value} (h : w.ownsRow base e 1 (.slice A n c) n xs) : At1 w w.heap.size A xs := by
  have hl := h.1
  rcases h.2 with ⟨h1, h0⟩ | ⟨g, c', cur, h1, h2⟩
  · exact .inl (List.eq_nil_of_length_eq_zero (by omega))
  · cases h1
    refine .inr ⟨g, 0, rfl, (h.lt g rfl).2, fun j hj => ?_⟩
    rw [Nat.zero_add, h.cellAt j (by omega), List.getElem?_eq_getElem hj]
theorem At1.more {w : World} {hi hi' : Nat} {A : Option Addr} {xs : List Value} (h : At1 w hi A xs) (hh : hi ≤ hi') : At1 w hi' A xs := by
  rcases h with h | ⟨b, off, h1, h2, h3⟩
  · exact .inl h
  · exact .inr ⟨b, off, h1, Nat.lt_of_lt_of_le h2 hh, h3⟩

section
variable {H : Type} {enc : TypeId × Value → H} {W : World} {sp : Nat → Bool} {held : Bool}
/-- A slice of integers that came in. -/
theorem open_kind {t e : TypeId} {k : IntKind} (ht : Tryz.prog.underlying t = some (.slice e)) (he : Tryz.prog.underlying e = some (.int k)) (hc : Tryz.prog.cellsOf e = 1) {v : Value} {d : DataW H} {p : List MemPlace} {r : Reach} {b0 : Nat}
    (hv : Value.okWide Tryz.prog W r b0 t v) (h : DataW.Trod enc Tryz.prog W 0 sp held t v d p) :
    ∃ (l : List Int) (A : Option Addr) (cap : Nat), v = .slice A l.length cap ∧ l.length ≤ maxLen ∧ (∀ z ∈ l, (Lit.int k z).wf = true) ∧ At1 W W.heap.size A (l.map (Value.int k)) := by
  obtain ⟨a1, len, cap, rfl⟩ := okWide_slice ht hv
  obtain ⟨fuel, hf⟩ := h
  rcases open_ints ht he hc hf with ⟨hcs, _⟩ | ⟨a, len', cap', zs, hcs, _, hl, hm, hz, _, hcell, hwz⟩
  · simp [Value.cells] at hcs
    obtain ⟨rfl, rfl, rfl⟩ := hcs
    exact ⟨[], none, 0, rfl, Nat.zero_le _, (fun z hz => by cases hz), .inl rfl⟩
  · simp [Value.cells] at hcs
    obtain ⟨rfl, rfl, rfl⟩ := hcs
    have hzl : len ≤ zs.length := by rw [hz]; split <;> omega
    have hll : (zs.take len).length = len := by rw [List.length_take]; omega
    refine ⟨zs.take len, some a, cap, by rw [hll], by rw [hll]; unfold maxLen at *; omega, fun z hz => hwz z (List.mem_of_mem_take hz), ?_⟩
    by_cases h0 : len = 0
    · refine .inl ?_
      rw [h0]; rfl
    · have hc0 := hcell 0 (by omega)
      obtain ⟨b, off, spot⟩ := a
      have hspot : spot = none := by
        have e : ((⟨b, off, spot⟩ : Addr).add 0) = ⟨b, off, spot⟩ := by simp [Addr.add]
        rw [e] at hc0
        exact World.cell?_spot hc0
      subst hspot
      refine .inr ⟨b, off, rfl, World.block_lt_of_cell? W _ hc0, fun j hj => ?_⟩
      rw [List.length_map, hll] at hj
      have h1 := hcell j (by omega)
      rw [Addr.add_lit] at h1
      rw [h1]
      simp [List.getD, List.getElem?_eq_getElem (show j < zs.length by omega)]
/-- A slice of texts that came in. -/
theorem open_row {t e : TypeId} (ht : Tryz.prog.underlying t = some (.slice e)) (he : Tryz.prog.underlying e = some .string) (hc : Tryz.prog.cellsOf e = 1) {v : Value} {d : DataW H} {p : List MemPlace} {r : Reach} {b0 : Nat}
    (hv : Value.okWide Tryz.prog W r b0 t v) (h : DataW.Trod enc Tryz.prog W 0 sp held t v d p) :
    ∃ (l : List ByteArray) (A : Option Addr) (cap : Nat), v = .slice A l.length cap ∧ l.length ≤ maxLen ∧ (∀ s ∈ l, s.size ≤ maxLen) ∧ At1 W W.heap.size A (l.map Value.string) := by
  obtain ⟨a1, len, cap, rfl⟩ := okWide_slice ht hv
  obtain ⟨fuel, hf⟩ := h
  rcases open_strings ht he hc hf with ⟨hcs, _⟩ | ⟨a, len', cap', zs, hcs, _, hl, hm, hz, _, hcell, hwz⟩
  · simp [Value.cells] at hcs
    obtain ⟨rfl, rfl, rfl⟩ := hcs
    exact ⟨[], none, 0, rfl, Nat.zero_le _, (fun z hz => by cases hz), .inl rfl⟩
  · simp [Value.cells] at hcs
    obtain ⟨rfl, rfl, rfl⟩ := hcs
    have hzl : len ≤ zs.length := by rw [hz]; split <;> omega
    have hll : (zs.take len).length = len := by rw [List.length_take]; omega
    refine ⟨zs.take len, some a, cap, by rw [hll], by rw [hll]; unfold maxLen at *; omega, fun z hz => hwz z (List.mem_of_mem_take hz), ?_⟩
    by_cases h0 : len = 0
    · refine .inl ?_
      rw [h0]; rfl
    · have hc0 := hcell 0 (by omega)
      obtain ⟨b, off, spot⟩ := a
      have hspot : spot = none := by
        have e : ((⟨b, off, spot⟩ : Addr).add 0) = ⟨b, off, spot⟩ := by simp [Addr.add]
        rw [e] at hc0
        exact World.cell?_spot hc0
      subst hspot
      refine .inr ⟨b, off, rfl, World.block_lt_of_cell? W _ hc0, fun j hj => ?_⟩
      rw [List.length_map, hll] at hj
      have h1 := hcell j (by omega)
      rw [Addr.add_lit] at h1
      rw [h1]
      simp [List.getD, List.getElem?_eq_getElem (show j < zs.length by omega)]
end
end Go.Proofs.YtbfddabljkoapaaGreatDoor

/-
  The drawing cursor: bytes and numbers from it.
-/
namespace Go.Proofs.YtbfddabljkoapaaGreatDoor
open Go.RowKit
set_option linter.unusedVariables false
set_option linter.unusedSimpArgs false
set_option maxRecDepth 100000

/-- Only block b changed, and what is new. -/
def Gr (b : Nat) (w w' : World) : Prop := w.grownBy w' (some b)
theorem Gr.refl (b : Nat) (w : World) : Gr b w w := World.grownBy.refl w _
theorem Gr.trans {b : Nat} {a c d : World} (h : Gr b a c) (k : Gr b c d) : Gr b a d := World.grownBy.trans h k
theorem Gr.alloc {b : Nat} {a w : World} (h : Gr b a w) (o : Obj) : Gr b a (w.alloc o) := h.trans (World.grownBy_alloc w o _)
theorem Gr.drewN {b : Nat} {a w : World} (h : Gr b a w) (n : Nat) : Gr b a (w.drewN n) := h.trans ⟨rfl, rfl, rfl, Nat.le_refl _, fun _ _ _ => rfl⟩
theorem Gr.drew {b : Nat} {a w : World} (h : Gr b a w) : Gr b a w.drew := h.trans ⟨rfl, rfl, rfl, Nat.le_refl _, fun _ _ _ => rfl⟩
theorem Gr.below {b B : Nat} {a w w' : World} (h : Gr b a w) (hb : Below B w w') (hB : w.heap.size ≤ B) : Gr b a w' := h.trans ⟨hb.os, hb.tape, hb.output, hb.size, fun k hk _ => hb.block k (Nat.lt_of_lt_of_le hk hB)⟩
theorem Gr.toBelow {b B : Nat} {w w' : World} (h : Gr b w w') (hB : B ≤ b) (hw : B ≤ w.heap.size) : Below B w w' := ⟨h.os, h.tape, h.output, h.size, fun k hk => h.block k (by omega) (by intro e; injection e with e; omega)⟩
theorem Gr.cell {b : Nat} {w w' : World} (h : Gr b w w') {g j : Nat} {v : Value} (hg : g ≠ b) (hc : w.cell? ⟨g, j, none⟩ = some v) : w'.cell? ⟨g, j, none⟩ = some v := World.grownBy.cell h hc (by intro e; injection e with e; exact hg e)
theorem Gr.set (b : Nat) (w : World) (i : Nat) (v : Value) : Gr b w (w.setCell ⟨b, i, none⟩ v) :=
  ⟨rfl, rfl, rfl, by simp, fun k _ hk => heap_setCell_other w ⟨b, i, none⟩ k v (fun e => hk (by simp [e]))⟩
/-- The cursor's block. -/
def CurB (w : World) (b : Nat) (A : Option Addr) (n cap : Nat) : Prop := ∃ (i : Nat) (h : Int), i ≤ n ∧ Blk w b 99 #[.slice A n cap, .int .i64 i, .int .i64 h]
/-- A cursor over bytes. -/
def Cur (w : World) (b : Nat) (A : Option Addr) (cap : Nat) (code : List UInt8) : Prop := CurB w b A code.length cap ∧ At1 w b A (code.map bv) ∧ code.length ≤ 1000000000
theorem Cur.lt {w : World} {b : Nat} {A : Option Addr} {cap : Nat} {code : List UInt8} (h : Cur w b A cap code) : b < w.heap.size := by
  obtain ⟨⟨i, h', _, hB⟩, _⟩ := h
  exact hB.lt
theorem Cur.below {w w' : World} {b : Nat} {A : Option Addr} {cap : Nat} {code : List UInt8} (h : Cur w b A cap code) {B : Nat} (hb : Below B w w') (hB : b < B) : Cur w' b A cap code := by
  obtain ⟨⟨i, h', hi, hB'⟩, h2, h3⟩ := h
  exact ⟨⟨i, h', hi, hB'.below hb hB⟩, h2.below hb (Nat.le_of_lt hB), h3⟩
theorem Cur.alloc {w : World} {b : Nat} {A : Option Addr} {cap : Nat} {code : List UInt8} (h : Cur w b A cap code) (o : Obj) : Cur (w.alloc o) b A cap code := h.below ((Below.refl w.heap.size w).alloc (Nat.le_refl _) o) h.lt
theorem Blk.set {w : World} {g : Nat} {t : TypeId} {cs : Array Value} (h : Blk w g t cs) (i : Nat) (v : Value) : Blk (w.setCell ⟨g, i, none⟩ v) g t (cs.setIfInBounds i v) := heap_setCell_same w g i cs t v h
theorem Blk.soft {w : World} {g : Nat} {t : TypeId} {cs : Array Value} (h : Blk w g t cs) (i : Nat) : w.frozen? ⟨g, i, none⟩ = false := frozen_of_row w g i cs t h
theorem At1.grown {w w' : World} {b : Nat} {A : Option Addr} {xs : List Value} (h : At1 w b A xs) (hg : Gr b w w') : At1 w' b A xs := by
  rcases h with h | ⟨g, off, h1, h2, h3⟩
  · exact .inl h
  · exact .inr ⟨g, off, h1, h2, fun j hj => hg.cell (by omega) (h3 j hj)⟩

theorem and255 (n : Int) : bits .and .i64 n 255 = ((n % 256).toNat : Int) := by
  have h255 : (BitVec.ofInt 64 255).toNat = 2 ^ 8 - 1 := by decide
  have key : (BitVec.ofInt 64 n &&& BitVec.ofInt 64 255).toNat = (n % ((2 ^ 64 : Nat) : Int)).toNat % 2 ^ 8 := by
    rw [BitVec.toNat_and, BitVec.toNat_ofInt, h255, Nat.and_two_pow_sub_one_eq_mod]
  show IntKind.i64.wrap ((BitVec.ofInt 64 n &&& BitVec.ofInt 64 255).toNat : Nat) = _
  rw [key, IntKind.wrap_i64]
  omega

/-- What drawing hands back behind a call: the cursor stands, and only it changed. -/
def Drawn (w : World) (b : Nat) (A : Option Addr) (cap : Nat) (code : List UInt8) (w' : World) : Prop := Cur w' b A cap code ∧ Gr b w w'

set_option maxHeartbeats 2000000 in
theorem dByte (b : Nat) (A : Option Addr) (cap : Nat) (code : List UInt8) (w : World) (hc : Cur w b A cap code) :
    Calls Tryz.prog 107 #[.pointer (some ⟨b, 0, none⟩)] w fun e w' => (∃ r : Nat, r < 256 ∧ e = .returned (.int .i64 r)) ∧ Drawn w b A cap code w' := by
  obtain ⟨⟨i, h, hi, hB⟩, hat, hn⟩ := hc
  have d2 : w.cell? ⟨b, 2, none⟩ = some (.int .i64 h) := hB.cell 2
  have k2 := hB.soft 2
  have HB := Lib.hid hB
  have HA := Lib.hid hat
  clear hB hat
  go_enter Tryz.func107, Tryz.ntmps107
  go_wp2_with fail
  generalize wrap64 (wrap64 (h * 6364136223846793005) + 1442695040888963407) = H
  have hB1 : Blk (w.setCell ⟨b, 2, none⟩ (.int .i64 H)) b 99 #[.slice A code.length cap, .int .i64 i, .int .i64 H] := HB.out.set 2 (.int .i64 H)
  have hg1 : Gr b w (w.setCell ⟨b, 2, none⟩ (.int .i64 H)) := Gr.set b w 2 _
  generalize w.setCell ⟨b, 2, none⟩ (.int .i64 H) = w1 at hB1 hg1 ⊢
  have HB1 := Lib.hid hB1
  have HG1 := Lib.hid hg1
  have e0 : w1.cell? ⟨b, 0, none⟩ = some (.slice A code.length cap) := hB1.cell 0
  have e1 : w1.cell? ⟨b, 1, none⟩ = some (.int .i64 i) := hB1.cell 1
  have e2 : w1.cell? ⟨b, 2, none⟩ = some (.int .i64 H) := hB1.cell 2
  clear d2 k2 hB1 hg1
  go_quiet (fail)
  rw [and255]
  have hX : (bits .xor .i64 (H / 8589934592) (H / 35184372088832) % 256).toNat < 256 := by omega
  generalize (bits .xor .i64 (H / 8589934592) (H / 35184372088832) % 256).toNat = X at hX ⊢
  have hg2 := HG1.out.drewN nq
  have hB2 : Blk (w1.drewN nq) b 99 #[.slice A code.length cap, .int .i64 i, .int .i64 H] := HB1.out
  generalize w1.drewN nq = w2 at hg2 hB2 ⊢
  have f0 : w2.cell? ⟨b, 0, none⟩ = some (.slice A code.length cap) := hB2.cell 0
  have f1 : w2.cell? ⟨b, 1, none⟩ = some (.int .i64 i) := hB2.cell 1
  have HB2 := Lib.hid hB2
  have HG2 := Lib.hid hg2
  clear e0 e1 e2 hB2 hg2
  by_cases hlt : i < code.length
  · obtain ⟨g, off, rfl, hgb, hcell⟩ := (HA.out.grown HG2.out).get (j := i) (by simpa using hlt)
    rw [List.getElem_map] at hcell
    unfold bv at hcell
    go_wp2_with fail
    go_quiet (fail)
    have hg3 := HG2.out.drewN nq
    have hB3 : Blk (w2.drewN nq) b 99 #[.slice (some ⟨g, off, none⟩) code.length cap, .int .i64 i, .int .i64 H] := HB2.out
    have hcell3 : (w2.drewN nq).cell? ⟨g, off + i, none⟩ = some (.int .u8 ((code[i]).toNat : Int)) := hcell
    generalize w2.drewN nq = w3 at hg3 hB3 hcell3 ⊢
    have e0 : w3.cell? ⟨b, 0, none⟩ = some (.slice (some ⟨g, off, none⟩) code.length cap) := hB3.cell 0
    have e1 : w3.cell? ⟨b, 1, none⟩ = some (.int .i64 i) := hB3.cell 1
    have hu : (code[i]).toNat < 256 := UInt8.toNat_lt _
    have HB3 := Lib.hid hB3
    have HG3 := Lib.hid hg3
    clear f0 f1 hcell hB3 hg3
    go_wp2_with fail
    go_quiet (fail)
    rw [and255]
    have hY : ((((X : Nat) : Int) + ((code[i]).toNat : Int)) % 256).toNat < 256 := by omega
    generalize ((((X : Nat) : Int) + ((code[i]).toNat : Int)) % 256).toNat = Y at hY ⊢
    have hg4 := HG3.out.drewN nq
    have hB4 : Blk (w3.drewN nq) b 99 #[.slice (some ⟨g, off, none⟩) code.length cap, .int .i64 i, .int .i64 H] := HB3.out
    generalize w3.drewN nq = w4 at hg4 hB4 ⊢
    have f1 : w4.cell? ⟨b, 1, none⟩ = some (.int .i64 i) := hB4.cell 1
    have k1 := hB4.soft 1
    have HB4 := Lib.hid hB4
    have HG4 := Lib.hid hg4
    clear e0 e1 hB4 hg4 hcell3
    go_wp2_with fail
    go_ret
    have hgN : Gr b w (w4.setCell ⟨b, 1, none⟩ (.int .i64 ((i + 1 : Nat) : Int))) := HG4.out.trans (Gr.set b w4 1 _)
    exact ⟨⟨Y, hY, rfl⟩, ⟨⟨i + 1, H, hlt, HB4.out.set 1 (.int .i64 ((i + 1 : Nat) : Int))⟩, HA.out.grown hgN, hn⟩, hgN⟩
  · go_wp2_with fail
    go_quiet (fail)
    go_wp2_with fail
    go_ret
    exact ⟨⟨X, hX, rfl⟩, ⟨⟨i, H, hi, HB2.out⟩, HA.out.grown (HG2.out.drewN _), hn⟩, HG2.out.drewN _⟩

theorem tmodN (x n : Nat) : Int.tmod (x : Int) (n : Int) = ((x % n : Nat) : Int) := by
  rw [Int.tmod_eq_emod_of_nonneg (by omega)]
  omega

set_option maxHeartbeats 2000000 in
theorem dBelow (n : Nat) (b : Nat) (A : Option Addr) (cap : Nat) (code : List UInt8) (w : World) (h0 : 0 < n) (hn : n ≤ 2000000000) (hc : Cur w b A cap code) :
    Calls Tryz.prog 63 #[.pointer (some ⟨b, 0, none⟩), .int .i64 n] w fun e w' => (∃ r : Nat, r < n ∧ e = .returned (.int .i64 r)) ∧ Drawn w b A cap code w' := by
  have HC := Lib.hid hc
  clear hc
  have hn0 : ¬ (n : Int) = 0 := by omega
  by_cases h256 : n ≤ 256
  · go_enter Tryz.func63, Tryz.ntmps63
    go_wp2_with fail
    refine (dByte b A cap code w HC.out).mono ?_
    rintro e w1 ⟨⟨r, hr, rfl⟩, hd⟩
    go_wp2_with fail
    go_ret
    exact ⟨⟨r % n, Nat.mod_lt _ h0, ret_eq (congrArg (Value.int .i64) (by simp))⟩, hd⟩
  · go_enter Tryz.func63, Tryz.ntmps63
    go_wp2_with fail
    refine (dByte b A cap code w HC.out).mono ?_
    rintro e w1 ⟨⟨r1, hr1, rfl⟩, hd1⟩
    go_wp2_with fail
    refine (dByte b A cap code w1 hd1.1).mono ?_
    rintro e w2 ⟨⟨r2, hr2, rfl⟩, hd2⟩
    go_wp2_with fail
    refine (dByte b A cap code w2 hd2.1).mono ?_
    rintro e w3 ⟨⟨r3, hr3, rfl⟩, hd3⟩
    go_wp2_with fail
    refine (dByte b A cap code w3 hd3.1).mono ?_
    rintro e w4 ⟨⟨r4, hr4, rfl⟩, hd4⟩
    go_wp2_with fail
    go_ret
    exact ⟨⟨(r1 * 16777216 + r2 * 65536 + r3 * 256 + r4) % n, Nat.mod_lt _ h0, ret_eq (congrArg (Value.int .i64) (by simp))⟩, hd4.1, hd1.2.trans (hd2.2.trans (hd3.2.trans hd4.2))⟩

theorem dOnce (n : Nat) (b : Nat) (A : Option Addr) (cap : Nat) (code : List UInt8) (w : World) (h0 : 0 < n) (hn : n ≤ 2000000000) (hc : Cur w b A cap code) :
    Calls Tryz.prog 53 #[.pointer (some ⟨b, 0, none⟩), .int .i64 n] w fun e w' => (∃ r : Bool, e = .returned (.bool r)) ∧ Drawn w b A cap code w' := by
  have HC := Lib.hid hc
  clear hc
  go_enter Tryz.func53, Tryz.ntmps53
  go_wp2_with fail
  refine (dBelow n b A cap code w h0 hn HC.out).mono ?_
  rintro e w1 ⟨⟨r, hr, rfl⟩, hd⟩
  by_cases hz : r = 0
  · subst hz
    go_wp2_with fail
    go_ret
    exact ⟨⟨_, rfl⟩, hd⟩
  · have hz2 : ¬ (r : Int) = 0 := by omega
    go_wp2_with fail
    go_ret
    exact ⟨⟨_, rfl⟩, hd⟩

/-- A row to pick from. -/
def PickRow (w : World) (b g : Nat) (xs : List Value) : Prop := g ≠ b ∧ ∀ j (h : j < xs.length), w.cell? ⟨g, j, none⟩ = some xs[j]
theorem PickRow.new {w : World} {b : Nat} (hb : b < w.heap.size) (xs : Array Value) (t : TypeId) : PickRow (w.alloc (.cells xs t)) b w.heap.size xs.toList := by
  refine ⟨by omega, fun j hj => ?_⟩
  simp

set_option maxHeartbeats 2000000 in
theorem dPick (l : List ByteArray) (g c : Nat) (b : Nat) (A : Option Addr) (cap : Nat) (code : List UInt8) (w : World) (h0 : 0 < l.length) (hn : l.length ≤ 1000) (hc : Cur w b A cap code) (hp : PickRow w b g (l.map Value.string)) :
    Calls Tryz.prog 54 #[.pointer (some ⟨b, 0, none⟩), .slice (some ⟨g, 0, none⟩) l.length c] w fun e w' => (∃ s ∈ l, e = .returned (.string s)) ∧ Drawn w b A cap code w' := by
  have HC := Lib.hid hc
  have HP := Lib.hid hp
  clear hc hp
  go_enter Tryz.func54, Tryz.ntmps54
  go_wp2_with fail
  refine (dBelow l.length b A cap code w h0 (by omega) HC.out).mono ?_
  rintro e w1 ⟨⟨r, hr, rfl⟩, hd⟩
  have d0 := hd.2.cell HP.out.1 (HP.out.2 r (by simpa using hr))
  rw [List.getElem_map] at d0
  go_wp2_with fail
  go_ret
  exact ⟨⟨_, List.getElem_mem hr, rfl⟩, hd⟩

set_option maxHeartbeats 2000000 in
theorem dPickInt (l : List Int) (g c : Nat) (b : Nat) (A : Option Addr) (cap : Nat) (code : List UInt8) (w : World) (h0 : 0 < l.length) (hn : l.length ≤ 1000) (hc : Cur w b A cap code) (hp : PickRow w b g (l.map (Value.int .i64))) :
    Calls Tryz.prog 55 #[.pointer (some ⟨b, 0, none⟩), .slice (some ⟨g, 0, none⟩) l.length c] w fun e w' => (∃ z ∈ l, e = .returned (.int .i64 z)) ∧ Drawn w b A cap code w' := by
  have HC := Lib.hid hc
  have HP := Lib.hid hp
  clear hc hp
  go_enter Tryz.func55, Tryz.ntmps55
  go_wp2_with fail
  refine (dBelow l.length b A cap code w h0 (by omega) HC.out).mono ?_
  rintro e w1 ⟨⟨r, hr, rfl⟩, hd⟩
  have d0 := hd.2.cell HP.out.1 (HP.out.2 r (by simpa using hr))
  rw [List.getElem_map] at d0
  go_wp2_with fail
  go_ret
  exact ⟨⟨_, List.getElem_mem hr, rfl⟩, hd⟩
end Go.Proofs.YtbfddabljkoapaaGreatDoor

/-
  The drawing cursor: a new one; short texts; a text bent.
-/
namespace Go.Proofs.YtbfddabljkoapaaGreatDoor
open Go.RowKit
set_option linter.unusedVariables false
set_option linter.unusedSimpArgs false
set_option maxRecDepth 100000

set_option maxHeartbeats 2000000 in
theorem dNew (A : Option Addr) (cap : Nat) (code : List UInt8) (w : World) (hat : At1 w w.heap.size A (code.map bv)) (hn : code.length ≤ 1000000000) :
    Calls Tryz.prog 49 #[.slice A code.length cap] w fun e w' => e = .returned (.pointer (some ⟨w.heap.size, 0, none⟩)) ∧ Cur w' w.heap.size A cap code ∧ Below w.heap.size w w' := by
  have HA := Lib.hid hat
  clear hat
  go_enter Tryz.func49, Tryz.ntmps49
  go_wp2_with fail
  go_loop [3, 4] (fun h i => ∃ (j : Nat) (H : Int), j ≤ code.length ∧ i = .int .i64 j ∧ h = .int .i64 H) (fun _ i => code.length - (intOf i).toNat)
  case atStart => exact ⟨0, _, Nat.zero_le _, rfl, rfl⟩
  case round =>
    obtain ⟨j, H, hj, rfl, rfl⟩ := hrel
    have fin : ∀ (H : Int), Cur (w.alloc (.cells #[.slice A code.length cap, .int .i64 0, .int .i64 H] 99)) w.heap.size A cap code ∧ Below w.heap.size w (w.alloc (.cells #[.slice A code.length cap, .int .i64 0, .int .i64 H] 99)) := fun H =>
      ⟨⟨⟨0, H, Nat.zero_le _, Blk.new w _ _⟩, HA.out.below ((Below.refl w.heap.size w).alloc (Nat.le_refl _) _) (Nat.le_refl _), hn⟩, (Below.refl _ _).alloc (Nat.le_refl _) _⟩
    have HF := Lib.hid fin
    clear fin
    by_cases hlt : j < code.length
    · by_cases h4 : j < 4000
      · obtain ⟨g, off, rfl, hgb, hcell⟩ := HA.out.get (j := j) (by simpa using hlt)
        rw [List.getElem_map] at hcell
        unfold bv at hcell
        have h4i : (j : Int) < 4000 := by omega
        go_wp2_with fail
        go_round
        case rel => exact ⟨j + 1, _, hlt, by go_num, rfl⟩
        case measure => simp [intOf]; omega
      · have h4i : ¬ (j : Int) < 4000 := by omega
        go_wp2_with fail
        go_ret
        exact ⟨rfl, HF.out _⟩
    · obtain rfl : j = code.length := by omega
      go_wp2_with fail
      go_ret
      exact ⟨rfl, HF.out _⟩

theorem Drawn.trans {b cap : Nat} {A : Option Addr} {code : List UInt8} {a c d : World} (h : Drawn a b A cap code c) (k : Drawn c b A cap code d) : Drawn a b A cap code d := ⟨k.1, h.2.trans k.2⟩
theorem Drawn.refl {b cap : Nat} {A : Option Addr} {code : List UInt8} {w : World} (h : Cur w b A cap code) : Drawn w b A cap code w := ⟨h, Gr.refl _ _⟩
theorem Drawn.alloc {b cap : Nat} {A : Option Addr} {code : List UInt8} {w : World} (h : Cur w b A cap code) (o : Obj) : Drawn w b A cap code (w.alloc o) := ⟨h.alloc o, (Gr.refl _ _).alloc o⟩
theorem Drawn.of {b cap : Nat} {A : Option Addr} {code : List UInt8} {w w' : World} (h : Cur w b A cap code) (hb : Below w.heap.size w w') : Drawn w b A cap code w' := ⟨h.below hb h.lt, (Gr.refl _ _).below hb (Nat.le_refl _)⟩
/-- Picking from a new row of texts. -/
theorem dPickNew (l : List ByteArray) (b : Nat) (A : Option Addr) (cap : Nat) (code : List UInt8) (w : World) (h0 : 0 < l.length) (hn : l.length ≤ 1000) (hc : Cur w b A cap code) :
    Calls Tryz.prog 54 #[.pointer (some ⟨b, 0, none⟩), .slice (some ⟨w.heap.size, 0, none⟩) l.length l.length] (w.alloc (.cells (l.map Value.string).toArray 9)) fun e w' => (∃ s ∈ l, e = .returned (.string s)) ∧ Drawn w b A cap code w' := by
  have hp := PickRow.new hc.lt (l.map Value.string).toArray 9
  rw [List.toList_toArray] at hp
  refine (dPick l w.heap.size l.length b A cap code _ h0 hn (hc.alloc _) hp).mono ?_
  rintro e w' ⟨he, hd⟩
  exact ⟨he, (Drawn.alloc hc _).trans hd⟩
theorem dPickNewD (l : List ByteArray) (b : Nat) (A : Option Addr) (cap : Nat) (code : List UInt8) (w : World) (h0 : 0 < l.length) (hn : l.length ≤ 1000) (hc : Cur w b A cap code) :
    Calls Tryz.prog 54 #[.pointer (some ⟨b, 0, none⟩), .slice (some ⟨w.heap.size, 0, none⟩) l.length l.length] (w.alloc (.cells (l.map Value.string).toArray 9)).drew fun e w' => (∃ s ∈ l, e = .returned (.string s)) ∧ Drawn w b A cap code w' := by
  have hp := PickRow.new hc.lt (l.map Value.string).toArray 9
  rw [List.toList_toArray] at hp
  refine (dPick l w.heap.size l.length b A cap code _ h0 hn (show Cur (w.alloc (.cells (l.map Value.string).toArray 9)).drew b A cap code from hc.alloc _) hp).mono ?_
  rintro e w' ⟨he, hd⟩
  exact ⟨he, hd.1, (((Gr.refl _ _).alloc _).drew).trans hd.2⟩
theorem dPickIntNewD (l : List Int) (b : Nat) (A : Option Addr) (cap : Nat) (code : List UInt8) (w : World) (h0 : 0 < l.length) (hn : l.length ≤ 1000) (hc : Cur w b A cap code) :
    Calls Tryz.prog 55 #[.pointer (some ⟨b, 0, none⟩), .slice (some ⟨w.heap.size, 0, none⟩) l.length l.length] (w.alloc (.cells (l.map (Value.int .i64)).toArray 3)).drew fun e w' => (∃ z ∈ l, e = .returned (.int .i64 z)) ∧ Drawn w b A cap code w' := by
  have hp := PickRow.new hc.lt (l.map (Value.int .i64)).toArray 3
  rw [List.toList_toArray] at hp
  refine (dPickInt l w.heap.size l.length b A cap code _ h0 hn (show Cur (w.alloc (.cells (l.map (Value.int .i64)).toArray 3)).drew b A cap code from hc.alloc _) hp).mono ?_
  rintro e w' ⟨he, hd⟩
  exact ⟨he, hd.1, (((Gr.refl _ _).alloc _).drew).trans hd.2⟩
theorem dPickIntNew (l : List Int) (b : Nat) (A : Option Addr) (cap : Nat) (code : List UInt8) (w : World) (h0 : 0 < l.length) (hn : l.length ≤ 1000) (hc : Cur w b A cap code) :
    Calls Tryz.prog 55 #[.pointer (some ⟨b, 0, none⟩), .slice (some ⟨w.heap.size, 0, none⟩) l.length l.length] (w.alloc (.cells (l.map (Value.int .i64)).toArray 3)) fun e w' => (∃ z ∈ l, e = .returned (.int .i64 z)) ∧ Drawn w b A cap code w' := by
  have hp := PickRow.new hc.lt (l.map (Value.int .i64)).toArray 3
  rw [List.toList_toArray] at hp
  refine (dPickInt l w.heap.size l.length b A cap code _ h0 hn (hc.alloc _) hp).mono ?_
  rintro e w' ⟨he, hd⟩
  exact ⟨he, (Drawn.alloc hc _).trans hd⟩

def someL : List ByteArray := [⟨#[97]⟩, ⟨#[98]⟩, ⟨#[110, 97, 109, 101]⟩, ⟨#[34]⟩, ⟨#[92]⟩, ⟨#[10]⟩, ⟨#[1]⟩, ⟨#[195, 169]⟩, ⟨#[226, 130, 172]⟩, ⟨#[240, 159, 152, 128]⟩, ⟨#[47]⟩, ⟨#[48]⟩, ⟨#[32]⟩]
theorem someL_size : ∀ s ∈ someL, s.size ≤ 4 := by decide
set_option maxHeartbeats 2000000 in
theorem dSome (b : Nat) (A : Option Addr) (cap : Nat) (code : List UInt8) (w : World) (hc : Cur w b A cap code) :
    Calls Tryz.prog 51 #[.pointer (some ⟨b, 0, none⟩)] w fun e w' => (∃ s : ByteArray, s.size ≤ 16 ∧ e = .returned (.string s)) ∧ Drawn w b A cap code w' := by
  have HC := Lib.hid hc
  clear hc
  go_enter Tryz.func51, Tryz.ntmps51
  go_wp2_with fail
  refine (dBelow 5 b A cap code w (by omega) (by omega) HC.out).mono ?_
  rintro e w1 ⟨⟨n, hn, rfl⟩, hd1⟩
  have HD1 := Lib.hid hd1
  clear hd1
  go_wp2_with fail
  go_loopw [3, 5] (fun o i wr => ∃ (j : Nat) (t : ByteArray), j ≤ n ∧ i = .int .i64 j ∧ o = .string t ∧ t.size ≤ 4 * j ∧ Hid (Drawn w b A cap code wr)) (fun _ i _ => n - (intOf i).toNat)
  case atStart => exact ⟨0, ⟨#[]⟩, Nat.zero_le _, rfl, rfl, Nat.zero_le _, HD1⟩
  case round =>
    obtain ⟨j, t, hj, rfl, rfl, ht, HD⟩ := hrel
    by_cases hlt : j < n
    · go_wp2_with fail
      refine (dPickNew someL b A cap code _ (by decide) (by decide) HD.out.1).mono ?_
      rintro e w2 ⟨⟨p, hp, rfl⟩, hd2⟩
      have hps := someL_size p hp
      have HD2 := Lib.hid (HD.out.trans hd2)
      clear hp hd2
      go_wp2_with fail
      go_roundw
      case rel => exact ⟨j + 1, t ++ p, hlt, by go_num, rfl, by simp; omega, HD2⟩
      case measure => simp [intOf]; omega
    · obtain rfl : j = n := by omega
      go_wp2_with fail
      go_ret
      exact ⟨⟨t, by omega, rfl⟩, HD.out⟩
end Go.Proofs.YtbfddabljkoapaaGreatDoor

/-
  The drawing cursor: a text bent.
-/
namespace Go.Proofs.YtbfddabljkoapaaGreatDoor
open Go.RowKit
set_option linter.unusedVariables false
set_option linter.unusedSimpArgs false
set_option maxRecDepth 100000

def bentL1 : List ByteArray := [⟨#[48]⟩, ⟨#[32]⟩, ⟨#[255]⟩, ⟨#[128]⟩, ⟨#[34]⟩, ⟨#[92]⟩, ⟨#[97]⟩, ⟨#[44]⟩]
def bentL2 : List ByteArray := [⟨#[48]⟩, ⟨#[192]⟩, ⟨#[0]⟩, ⟨#[57]⟩, ⟨#[93]⟩]
theorem bent_size1 : ∀ s ∈ bentL1, s.size ≤ 1 := by decide
theorem bent_size2 : ∀ s ∈ bentL2, s.size ≤ 1 := by decide
set_option maxHeartbeats 4000000 in
theorem dBent (s : ByteArray) (b : Nat) (A : Option Addr) (cap : Nat) (code : List UInt8) (w : World) (hs : s.size ≤ 1000000) (hc : Cur w b A cap code) :
    Calls Tryz.prog 50 #[.pointer (some ⟨b, 0, none⟩), .string s] w fun e w' => (∃ t : ByteArray, t.size ≤ s.size + 1 ∧ e = .returned (.string t)) ∧ Drawn w b A cap code w' := by
  have HC := Lib.hid hc
  clear hc
  go_enter Tryz.func50, Tryz.ntmps50
  go_wp2_with fail
  have hcall := dBelow (s.size + 1) b A cap code w (by omega) (by omega) HC.out
  refine hcall.mono ?_
  rintro e w1 ⟨⟨i, hi, rfl⟩, hd1⟩
  have HD1 := Lib.hid hd1
  clear hd1
  go_wp2_with fail
  refine (dBelow 8 b A cap code w1 (by omega) (by omega) HD1.out.1).mono ?_
  rintro e w2 ⟨⟨k, hk, rfl⟩, hd2⟩
  have HD2 := Lib.hid (HD1.out.trans hd2)
  clear hd2
  have hib : (0 : Int) ≤ (i : Int) ∧ (i : Int) ≤ (s.size : Int) := by omega
  by_cases k0 : k = 0
  · subst k0
    go_wp2_with fail
    go_ret
    exact ⟨⟨_, by rw [ByteArray.size_extract]; omega, rfl⟩, HD2.out⟩
  · have k0i : ¬ (k : Int) = 0 := by omega
    by_cases k1 : k = 1
    · subst k1
      have hsa : (s.extract 0 i).size ≤ s.size := by rw [ByteArray.size_extract]; omega
      have hsb : (s.extract i s.size).size + i ≤ s.size := by rw [ByteArray.size_extract]; omega
      have hsc : (s.extract 0 i).size ≤ i := by rw [ByteArray.size_extract]; omega
      have HP := Lib.hid (dPickNewD bentL1 b A cap code w2 (by decide) (by decide) HD2.out.1)
      go_wp2_with fail
      go_region_held3 (fun _ => True) (exact trivial) (first | (go_at_call 54; refine HP.out.mono ?_; rintro e w3 ⟨⟨p, hp, rfl⟩, hd3⟩; have hps := bent_size1 p hp; have hsum1 := fun W => run_string_add_sum (P := Tryz.prog) (w := W) (s.extract 0 i) p (by omega); have hsum2 := fun W => run_string_add_sum (P := Tryz.prog) (w := W) (s.extract 0 i ++ p) (s.extract i s.size) (by rw [ByteArray.size_append]; omega)))
      all_goals
        go_wp2_with fail
        go_ret
        exact ⟨⟨_, by rw [ByteArray.size_append, ByteArray.size_append]; omega, rfl⟩, HD2.out.trans hd3⟩
    · have k1i : ¬ (k : Int) = 1 := by omega
      by_cases k2 : k = 2
      · subst k2
        by_cases hlt : i < s.size
        · have hsc : (s.extract 0 i).size ≤ i := by rw [ByteArray.size_extract]; omega
          have hsb : (s.extract (i + 1) s.size).size + i + 1 ≤ s.size := by rw [ByteArray.size_extract]; omega
          have hlt2 : (i : Int) < (s.size : Int) := by omega
          have hi1 : (0 : Int) ≤ (i : Int) + 1 ∧ (i : Int) + 1 ≤ (s.size : Int) := by omega
          have hwr : IntKind.i64.wrap ((i : Int) + 1) = (i : Int) + 1 := by rw [IntKind.wrap_i64]; omega
          have htn : ((i : Int) + 1).toNat = i + 1 := by omega
          have HP := Lib.hid (dPickNewD bentL2 b A cap code w2 (by decide) (by decide) HD2.out.1)
          go_wp2_with fail
          go_region_held3 (fun _ => True) (exact trivial) (first | (go_at_call 54; refine HP.out.mono ?_; rintro e w3 ⟨⟨p, hp, rfl⟩, hd3⟩; have hps := bent_size2 p hp; have hsum1 := fun W => run_string_add_sum (P := Tryz.prog) (w := W) (s.extract 0 i) p (by omega); have hsum2 := fun W => run_string_add_sum (P := Tryz.prog) (w := W) (s.extract 0 i ++ p) (s.extract (i + 1) s.size) (by rw [ByteArray.size_append]; omega)))
          all_goals
            go_wp2_with fail
            go_ret
            exact ⟨⟨_, by rw [ByteArray.size_append, ByteArray.size_append]; omega, rfl⟩, HD2.out.trans hd3⟩
        · have hlt2 : (s.size : Int) ≤ (i : Int) := by omega
          go_wp2_with fail
          go_ret
          exact ⟨⟨s, by omega, rfl⟩, HD2.out⟩
      · have k2i : ¬ (k : Int) = 2 := by omega
        go_wp2_with fail
        go_ret
        exact ⟨⟨s, by omega, rfl⟩, HD2.out⟩

/-- A whole draw: below the world's end only new blocks. -/
theorem Drawn.toBelow {b cap : Nat} {A : Option Addr} {code : List UInt8} {w0 w w' : World} (h : Drawn w b A cap code w') (h0 : Below w0.heap.size w0 w) (hb : w0.heap.size ≤ b) : Below w0.heap.size w0 w' := h0.trans (h.2.toBelow hb h0.size)
/-- What a draw of a text hands back: some text of bounded size. -/
def Drew (n : Nat) (w : World) (e : Ending) (w' : World) : Prop := (∃ t : ByteArray, t.size ≤ n ∧ e = .returned (.string t)) ∧ Below w.heap.size w w'
end Go.Proofs.YtbfddabljkoapaaGreatDoor
