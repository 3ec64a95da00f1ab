/-
  The texts on which the last one leans, part 1: OrdL, CopyS, DrawO, SpecLess, CnS, ImplLess, CnI, CnC, Big, LaidV.
-/
import Derived.Test.YtbfddabljkoapaaGreatDoorPLFnNumberf
import Derived.BigQuiet
import Derived.Deep.RegionHeld3
import Derived.Test.YtbfddabljkoapaaGreatDoorShelfV
import Derived.PinnedBridge
import Derived.Lib.LaidU8T
/-
  FnOrder, plainly: the order of numbers is that of what they stand for.
-/
namespace Go.Proofs.YtbfddabljkoapaaGreatDoor
open Go.RowKit
set_option linter.unusedVariables false
set_option linter.unusedSimpArgs false

theorem dval_acc : ∀ (l : List UInt8) (n : Nat), l.foldl (fun n b => 10 * n + (b.toNat - 48)) n = n * 10 ^ l.length + dval l
  | [], n => by simp [dval]
  | a :: l, n => by
    have h1 := dval_acc l (10 * n + (a.toNat - 48))
    have h2 := dval_acc l (10 * 0 + (a.toNat - 48))
    unfold dval at *
    rw [List.foldl_cons, List.foldl_cons, h1, h2, List.length_cons, Nat.pow_succ, Nat.add_mul, Nat.mul_zero, Nat.zero_add, Nat.mul_comm 10 n, Nat.mul_assoc, Nat.mul_comm 10 (10 ^ l.length)]
    omega
theorem dval_cons (a : UInt8) (l : List UInt8) : dval (a :: l) = (a.toNat - 48) * 10 ^ l.length + dval l := by
  have := dval_acc l (10 * 0 + (a.toNat - 48))
  rw [Nat.mul_zero, Nat.zero_add] at this
  rw [← this]
  unfold dval
  rw [List.foldl_cons, Nat.mul_zero, Nat.zero_add]
theorem dval_lt : ∀ l : List UInt8, (∀ b ∈ l, isDig b) → dval l < 10 ^ l.length
  | [], _ => by simp [dval]
  | a :: l, h => by
    have ih := dval_lt l (fun b hb => h b (by simp [hb]))
    have ha := h a (by simp)
    unfold isDig at ha
    rw [dval_cons, List.length_cons, Nat.pow_succ]
    have h1 : (a.toNat - 48) * 10 ^ l.length ≤ 9 * 10 ^ l.length := Nat.mul_le_mul_right _ (by omega)
    omega
/-- Digits as those ahead of N. -/
def lead (l : List UInt8) (N : Nat) : Nat := dval l * 10 ^ (N - l.length)
theorem lead_cons {a : UInt8} {l : List UInt8} {N : Nat} (h : l.length ≤ N) : lead (a :: l) (N + 1) = (a.toNat - 48) * 10 ^ N + lead l N := by
  unfold lead
  rw [dval_cons, List.length_cons, show N + 1 - (l.length + 1) = N - l.length by omega, Nat.add_mul, Nat.mul_assoc, ← Nat.pow_add, show l.length + (N - l.length) = N by omega]
theorem lead_lt {l : List UInt8} {N : Nat} (h : l.length ≤ N) (hd : ∀ b ∈ l, isDig b) : lead l N < 10 ^ N := by
  have h1 := dval_lt l hd
  have h2 : 0 < 10 ^ (N - l.length) := Nat.pow_pos (by omega)
  have h3 : dval l * 10 ^ (N - l.length) < 10 ^ l.length * 10 ^ (N - l.length) := Nat.mul_lt_mul_of_pos_right h1 h2
  rw [← Nat.pow_add, show l.length + (N - l.length) = N by omega] at h3
  exact h3
theorem bl_cons' (a b : UInt8) (l m : List UInt8) : Op.bytesLess (a :: l) (b :: m) = true ↔ a.toNat < b.toNat ∨ (a = b ∧ Op.bytesLess l m = true) := by
  by_cases h1 : a.toNat < b.toNat
  · have : a < b := UInt8.lt_iff_toNat_lt.2 h1
    simp [Op.bytesLess, this, h1]
  · have h2 : ¬ a < b := fun h => h1 (UInt8.lt_iff_toNat_lt.1 h)
    by_cases h3 : a = b
    · subst h3; simp [Op.bytesLess]
    · simp [Op.bytesLess, h1, h2, h3]
theorem lead_less : ∀ (l m : List UInt8) (N : Nat), l.length ≤ N → m.length ≤ N → (∀ b ∈ l, isDig b) → (∀ b ∈ m, isDig b) → (∀ r c, m = r ++ [c] → c ≠ 48) → Op.bytesLess l m = true → lead l N < lead m N
  | l, [], N, _, _, _, _, _, h => by cases l <;> simp [Op.bytesLess] at h
  | [], b :: m, N, _, h2, _, hm, hl, _ => by
    have e : lead [] N = 0 := by unfold lead; simp [dval]
    rw [e]
    unfold lead
    refine Nat.mul_pos ?_ (Nat.pow_pos (by omega))
    rcases List.eq_nil_or_concat (b :: m) with h | ⟨r, c, h⟩
    · cases h
    · rw [List.concat_eq_append] at h
      have hc := hl r c h
      have hcd := hm c (by rw [h]; simp)
      have : c.toNat ≠ 48 := fun e => hc (UInt8.toNat_inj.1 e)
      unfold isDig at hcd
      rw [h, dval_snoc]
      omega
  | a :: l, b :: m, 0, h1, _, _, _, _, _ => by simp at h1
  | a :: l, b :: m, N + 1, h1, h2, hl, hm, hlast, h => by
    have k1 : l.length ≤ N := by simpa using h1
    have k2 : m.length ≤ N := by simpa using h2
    have hl' : ∀ b ∈ l, isDig b := fun x hx => hl x (by simp [hx])
    have hm' : ∀ b ∈ m, isDig b := fun x hx => hm x (by simp [hx])
    rw [lead_cons k1, lead_cons k2]
    rcases (bl_cons' a b l m).1 h with h3 | ⟨rfl, h3⟩
    · have ha := hl a (by simp)
      have hb := hm b (by simp)
      unfold isDig at ha hb
      have e1 := lead_lt k1 hl'
      have e2 : (a.toNat - 48 + 1) * 10 ^ N ≤ (b.toNat - 48) * 10 ^ N := Nat.mul_le_mul_right _ (by omega)
      rw [Nat.add_mul, Nat.one_mul] at e2
      omega
    · have ih := lead_less l m N k1 k2 hl' hm' (fun r c e => hlast (a :: r) c (by rw [e]; rfl)) h3
      omega

/-- What a number stands for, 10 to the 20 times. -/
def V.tv (v : V) : Int := v.n * 10 ^ (v.e + 20).toNat
def V.ab (v : V) : Nat := v.n.natAbs * 10 ^ (v.e + 20).toNat
theorem V.tv_pos {v : V} (h : 0 < v.n) : v.tv = (v.ab : Int) := by
  unfold V.tv V.ab
  rw [Int.natCast_mul, Int.natCast_pow]
  rw [show ((v.n.natAbs : Nat) : Int) = v.n by omega]
  rfl
theorem V.tv_neg {v : V} (h : v.n < 0) : v.tv = -(v.ab : Int) := by
  unfold V.tv V.ab
  rw [Int.natCast_mul, Int.natCast_pow, show ((v.n.natAbs : Nat) : Int) = -v.n by omega, Int.neg_mul, Int.neg_neg]
  rfl
theorem V.ab_pos {v : V} (h : v.n ≠ 0) : 0 < v.ab := Nat.mul_pos (by omega) (Nat.pow_pos (by omega))
theorem V.tv_zero {v : V} (h : v.n = 0) : v.tv = 0 := by unfold V.tv; rw [h, Int.zero_mul]
theorem dec_bounds {u : Nat} (h : u ≠ 0) : u < 10 ^ (Lib.decDigits u).length ∧ 10 ^ ((Lib.decDigits u).length - 1) ≤ u := by
  have hd : ∀ b ∈ Lib.decDigits u, isDig b := dec_digit u
  have hv := dval_dec u
  refine ⟨by have := dval_lt _ hd; omega, ?_⟩
  obtain ⟨a, r, h1, h2⟩ := dec_head u h
  rw [h1] at hd hv ⊢
  rw [dval_cons] at hv
  have ha := hd a (by simp)
  have : a.toNat ≠ 48 := fun e => h2 (UInt8.toNat_inj.1 e)
  unfold isDig at ha
  have e : 1 * 10 ^ r.length ≤ (a.toNat - 48) * 10 ^ r.length := Nat.mul_le_mul_right _ (by omega)
  rw [List.length_cons, Nat.add_sub_cancel]
  omega
theorem dec_lead {u p : Nat} (h : u ≠ 0) : lead (cutZ (Lib.decDigits u)) ((Lib.decDigits u).length + p) = u * 10 ^ p := by
  have hs := cutZ_split (Lib.decDigits u)
  have hl := cutZ_len (Lib.decDigits u)
  have hv := dval_dec u
  obtain ⟨k, hk⟩ : ∃ k, (Lib.decDigits u).length - (cutZ (Lib.decDigits u)).length = k := ⟨_, rfl⟩
  unfold lead
  rw [show (Lib.decDigits u).length + p - (cutZ (Lib.decDigits u)).length = k + p by omega]
  rw [hk] at hs
  rw [hs, dval_rep] at hv
  rw [Nat.pow_add, ← Nat.mul_assoc, hv]
theorem size_less {a b : V} (ha : -20 ≤ a.e) (hb : -20 ≤ b.e) (h1 : a.n ≠ 0) (h2 : b.n ≠ 0) : (sizeR a b = -1 → a.ab < b.ab) ∧ (sizeR a b = 0 → a.ab = b.ab) := by
  have ua : a.n.natAbs ≠ 0 := by omega
  have ub : b.n.natAbs ≠ 0 := by omega
  obtain ⟨a1, a2⟩ := dec_bounds ua
  obtain ⟨b1, b2⟩ := dec_bounds ub
  have la : 0 < (Lib.decDigits a.n.natAbs).length := List.length_pos_iff.2 (dec_ne _)
  have lb : 0 < (Lib.decDigits b.n.natAbs).length := List.length_pos_iff.2 (dec_ne _)
  have da : ∀ x ∈ cutZ (Lib.decDigits a.n.natAbs), isDig x := fun x hx => dec_digit _ x (cutZ_mem hx)
  have db : ∀ x ∈ cutZ (Lib.decDigits b.n.natAbs), isDig x := fun x hx => dec_digit _ x (cutZ_mem hx)
  have ca := cutZ_len (Lib.decDigits a.n.natAbs)
  have cb := cutZ_len (Lib.decDigits b.n.natAbs)
  have hlast : ∀ r c, cutZ (Lib.decDigits b.n.natAbs) = r ++ [c] → c ≠ 48 := fun r c e => cutZ_last e
  obtain ⟨p, hp⟩ : ∃ p, (a.e + 20).toNat = p := ⟨_, rfl⟩
  obtain ⟨q, hq⟩ : ∃ q, (b.e + 20).toNat = q := ⟨_, rfl⟩
  have ea := dec_lead (p := p) ua
  have eb := dec_lead (p := q) ub
  have ma : a.mag = ((Lib.decDigits a.n.natAbs).length : Int) + a.e := rfl
  have mb : b.mag = ((Lib.decDigits b.n.natAbs).length : Int) + b.e := rfl
  have low : a.mag < b.mag → a.ab < b.ab := fun h => by
    unfold V.ab
    rw [hp, hq]
    have p1 : 0 < 10 ^ p := Nat.pow_pos (by omega)
    have e1 : a.n.natAbs * 10 ^ p < 10 ^ (Lib.decDigits a.n.natAbs).length * 10 ^ p := Nat.mul_lt_mul_of_pos_right a1 p1
    have e2 : 10 ^ ((Lib.decDigits b.n.natAbs).length - 1) * 10 ^ q ≤ b.n.natAbs * 10 ^ q := Nat.mul_le_mul_right _ b2
    rw [← Nat.pow_add] at e1 e2
    have e3 : 10 ^ ((Lib.decDigits a.n.natAbs).length + p) ≤ 10 ^ ((Lib.decDigits b.n.natAbs).length - 1 + q) := Nat.pow_le_pow_right (by omega) (by omega)
    omega
  have hz := fun (h : lessI a.mag b.mag = 0) => lessI_zero h
  constructor
  · intro h
    unfold sizeR at h
    split at h
    · rename_i hm
      have hm2 := hz hm
      have hN : (Lib.decDigits a.n.natAbs).length + p = (Lib.decDigits b.n.natAbs).length + q := by omega
      have hbl : Op.bytesLess (cutZ (Lib.decDigits a.n.natAbs)) (cutZ (Lib.decDigits b.n.natAbs)) = true := by
        unfold lessT at h
        split at h
        · rename_i h3
          rw [ByteArray.toList_eq, ByteArray.toList_eq] at h3
          simpa [str, V.digs] using h3
        · split at h <;> omega
      have := lead_less _ _ ((Lib.decDigits a.n.natAbs).length + p) (by omega) (by omega) da db hlast hbl
      rw [ea, hN, eb] at this
      unfold V.ab
      rw [hp, hq]
      exact this
    · refine low ?_
      unfold lessI at h
      split at h
      · assumption
      · split at h <;> omega
  · intro h
    unfold sizeR at h
    split at h
    · rename_i hm
      have hm2 := hz hm
      have hN : (Lib.decDigits a.n.natAbs).length + p = (Lib.decDigits b.n.natAbs).length + q := by omega
      have he := str_inj (lessT_zero h)
      unfold V.digs at he
      unfold V.ab
      rw [hp, hq, ← ea, ← eb, he, hN]
    · omega
theorem size_sign {a b : V} (ha : -20 ≤ a.e) (hb : -20 ≤ b.e) (h1 : a.n ≠ 0) (h2 : b.n ≠ 0) : (sizeR a b = -1 ∧ a.ab < b.ab) ∨ (sizeR a b = 0 ∧ a.ab = b.ab) ∨ (sizeR a b = 1 ∧ b.ab < a.ab) := by
  have r := sizeR_range a b
  have s1 := size_less ha hb h1 h2
  have s2 := size_less hb ha h2 h1
  have sw := sizeR_swap a b
  rcases (show sizeR a b = -1 ∨ sizeR a b = 0 ∨ sizeR a b = 1 by omega) with h | h | h
  · exact .inl ⟨h, s1.1 h⟩
  · exact .inr (.inl ⟨h, s1.2 h⟩)
  · exact .inr (.inr ⟨h, s2.1 (by omega)⟩)
/-- The order of two right numbers. -/
theorem cn_sign {a b : V} (ha : numOk a) (hb : numOk b) : (cnR a b = -1 ∧ a.tv < b.tv) ∨ (cnR a b = 0 ∧ a.tv = b.tv) ∨ (cnR a b = 1 ∧ b.tv < a.tv) := by
  have ea := (numOk_n ha).1
  have eb := (numOk_n hb).1
  rcases sgR_cases a with ⟨a1, a2⟩ | ⟨a1, a2⟩ | ⟨a1, a2⟩
  · have ta := V.tv_neg a2
    have pa := V.ab_pos (v := a) (by omega)
    rcases sgR_cases b with ⟨b1, b2⟩ | ⟨b1, b2⟩ | ⟨b1, b2⟩
    · have tb := V.tv_neg b2
      rw [cnR_neg ⟨ha, hb⟩ a1 b1]
      rcases size_sign (a := b) (b := a) eb ea (by omega) (by omega) with ⟨h, k⟩ | ⟨h, k⟩ | ⟨h, k⟩ <;> omega
    · have tb := V.tv_zero b2
      rw [cnR_sign ⟨ha, hb⟩ (.inl (by omega)), a1, b1]
      exact .inl ⟨rfl, by omega⟩
    · have tb := V.tv_pos b2
      have pb := V.ab_pos (v := b) (by omega)
      rw [cnR_sign ⟨ha, hb⟩ (.inl (by omega)), a1, b1]
      exact .inl ⟨rfl, by omega⟩
  · have ta := V.tv_zero a2
    rw [cnR_sign ⟨ha, hb⟩ (.inr a1), a1]
    rcases sgR_cases b with ⟨b1, b2⟩ | ⟨b1, b2⟩ | ⟨b1, b2⟩
    · have tb := V.tv_neg b2
      have pb := V.ab_pos (v := b) (by omega)
      rw [b1]
      exact .inr (.inr ⟨rfl, by omega⟩)
    · have tb := V.tv_zero b2
      rw [b1]
      exact .inr (.inl ⟨rfl, by omega⟩)
    · have tb := V.tv_pos b2
      have pb := V.ab_pos (v := b) (by omega)
      rw [b1]
      exact .inl ⟨rfl, by omega⟩
  · have ta := V.tv_pos a2
    have pa := V.ab_pos (v := a) (by omega)
    rcases sgR_cases b with ⟨b1, b2⟩ | ⟨b1, b2⟩ | ⟨b1, b2⟩
    · have tb := V.tv_neg b2
      have pb := V.ab_pos (v := b) (by omega)
      rw [cnR_sign ⟨ha, hb⟩ (.inl (by omega)), a1, b1]
      exact .inr (.inr ⟨rfl, by omega⟩)
    · have tb := V.tv_zero b2
      rw [cnR_sign ⟨ha, hb⟩ (.inl (by omega)), a1, b1]
      exact .inr (.inr ⟨rfl, by omega⟩)
    · have tb := V.tv_pos b2
      rw [cnR_pos ⟨ha, hb⟩ a1 b1]
      rcases size_sign (a := a) (b := b) ea eb (by omega) (by omega) with ⟨h, k⟩ | ⟨h, k⟩ | ⟨h, k⟩ <;> omega
theorem cn_two {a b : V} (h : cnR a b ≠ 2) : numOk a ∧ numOk b := Classical.byContradiction fun hn => h (cnR_no hn)
theorem cn_swap {a b : V} (h : cnR a b ≠ 2) : cnR b a = - cnR a b := by
  obtain ⟨ha, hb⟩ := cn_two h
  have h1 := cn_sign ha hb
  have h2 := cn_sign hb ha
  omega
theorem cn_self {a b : V} (h : cnR a b ≠ 2) : cnR a a = 0 := by
  obtain ⟨ha, hb⟩ := cn_two h
  have h1 := cn_sign ha ha
  omega
theorem num_shape {v : V} (h : numOk v) : (v = V.int v.n) ∨ (v = V.dec v.n v.e ∧ decOk v.n v.e) := by
  obtain ⟨h1, h2, h3, h4⟩ := okV_leaf h
  have hk : v.kids = [] := List.length_eq_zero_iff.1 h1
  have hs : v.s = ⟨#[]⟩ := by
    apply ByteArray.ext
    exact Array.eq_empty_of_size_eq_zero h2
  rcases h.1 with e | e
  · left
    have he := h3 e
    have := V.eta v
    rw [e, he, hs, hk] at this
    exact this
  · right
    have := V.eta v
    rw [e, hs, hk] at this
    exact ⟨this, h4 e⟩
theorem pow_cancel {x y : Int} {p : Nat} (h : x * 10 ^ p = y * 10 ^ p) : x = y := by
  have hp := pow_pos_int p
  exact Int.eq_of_mul_eq_mul_right (by omega) h
theorem tmod_mul (x : Int) (k : Nat) : Int.tmod (x * 10 ^ (k + 1)) 10 = 0 := by
  rw [Int.pow_succ, ← Int.mul_assoc]
  exact Int.mul_tmod_left _ _
theorem eq_mixed {n m e : Int} (hn : inR n) (hd : decOk m e) (h : n * 10 ^ 20 = m * 10 ^ (e + 20).toNat) : False := by
  have hm := hd
  unfold decOk at hm
  obtain ⟨g1, g2, g3, g4, g5, g6, g7⟩ := hm
  rcases (show e < 0 ∨ 0 < e by omega) with he | he
  · obtain ⟨k, hk⟩ : ∃ k : Nat, (e + 20).toNat + (k + 1) = 20 := ⟨20 - (e + 20).toNat - 1, by omega⟩
    have e1 : n * 10 ^ 20 = n * 10 ^ (k + 1) * 10 ^ (e + 20).toNat := by rw [Int.mul_assoc, ← Int.pow_add, show k + 1 + (e + 20).toNat = 20 by omega]
    rw [e1] at h
    have := pow_cancel h
    rw [← this] at g6
    exact g6 (tmod_mul n k)
  · have e1 : m * 10 ^ (e + 20).toNat = m * 10 ^ e.toNat * 10 ^ 20 := by rw [Int.mul_assoc, ← Int.pow_add, show e.toNat + 20 = (e + 20).toNat by omega]
    rw [e1] at h
    have h2 := pow_cancel h
    have ht := g7 he
    rw [tens_mul _ _ (by unfold inR; omega), if_pos (by rw [← h2]; exact hn)] at ht
    cases ht
theorem eq_decs {n m e f : Int} (hd : decOk n e) (hg : decOk m f) (hlt : e < f) (h : n * 10 ^ (e + 20).toNat = m * 10 ^ (f + 20).toNat) : False := by
  unfold decOk at hd hg
  obtain ⟨k, hk⟩ : ∃ k : Nat, (e + 20).toNat + (k + 1) = (f + 20).toNat := ⟨(f + 20).toNat - (e + 20).toNat - 1, by omega⟩
  have e1 : m * 10 ^ (f + 20).toNat = m * 10 ^ (k + 1) * 10 ^ (e + 20).toNat := by rw [Int.mul_assoc, ← Int.pow_add, show k + 1 + (e + 20).toNat = (f + 20).toNat by omega]
  rw [e1] at h
  have := pow_cancel h
  apply hd.2.2.2.2.2.1
  rw [this]
  exact tmod_mul m k
/-- Numbers that stand for the same are the same. -/
theorem cn_same {a b : V} (h : cnR a b = 0) (ha : inR a.n) (hb : inR b.n) : a = b := by
  obtain ⟨oa, ob⟩ := cn_two (a := a) (b := b) (by omega)
  have ht : a.tv = b.tv := by have := cn_sign oa ob; omega
  unfold V.tv at ht
  rcases num_shape oa with sa | ⟨sa, da⟩
  · rcases num_shape ob with sb | ⟨sb, db⟩
    · rw [sa, sb] at ht
      have e1 : a.n = b.n := pow_cancel (p := 20) ht
      rw [sa, sb, e1]
    · exfalso
      rw [sa] at ht
      exact eq_mixed ha db ht
  · rcases num_shape ob with sb | ⟨sb, db⟩
    · exfalso
      rw [sb] at ht
      exact eq_mixed hb da ht.symm
    · rcases Int.lt_trichotomy a.e b.e with hl | hl | hl
      · exact absurd ht (eq_decs da db hl)
      · rw [hl] at ht
        have e1 := pow_cancel ht
        rw [sa, sb, e1, hl]
      · exact absurd ht.symm (eq_decs db da hl)
theorem int_ok (n : Int) : numOk (V.int n) := ⟨.inl rfl, okV_int n⟩
theorem norm_int {n : Int} (h : inR n) : normD n 0 = V.int n := by
  unfold normD
  by_cases h0 : n = 0
  · subst h0; rw [normR_zero (by omega)]; rfl
  · rw [normR_whole (n1 := n) (k := 0) (by omega) h h0 (by simp) (by simp)]; rfl
/-- The greatest whole number that isn't above a number. -/
theorem whole_range {w : V} (hr : inR w.n) : inR (wholeN w) := by
  unfold wholeN
  split
  · obtain ⟨k, hk⟩ : ∃ k, (-w.e).toNat = k := ⟨_, rfl⟩
    rw [hk]
    have hp := pow_pos_int k
    have h1 := Int.emod_add_mul_ediv w.n (10 ^ k)
    have h2 := Int.emod_nonneg w.n (show (10 : Int) ^ k ≠ 0 by omega)
    have h3 := Int.emod_lt_of_pos w.n (show (0 : Int) < 10 ^ k by omega)
    unfold inR at *
    generalize w.n / 10 ^ k = x at *
    generalize (10 : Int) ^ k = P at *
    constructor
    · refine Classical.byContradiction fun hn => ?_
      have h4 := Int.mul_le_mul_of_nonneg_left (show x ≤ -9223372036854775809 by omega) (show (0 : Int) ≤ P by omega)
      rw [show P * (-9223372036854775809) = -(9223372036854775808 * P) - P by omega] at h4
      have h5 := Int.mul_le_mul_of_nonneg_left hp (show (0 : Int) ≤ 9223372036854775808 by omega)
      omega
    · refine Classical.byContradiction fun hn => ?_
      have h4 := Int.mul_le_mul_of_nonneg_left (show 9223372036854775808 ≤ x by omega) (show (0 : Int) ≤ P by omega)
      omega
  · unfold inR; omega
theorem whole_low {w : V} (h : numOk w ∧ ¬ 0 < w.e) : cnR (V.int (wholeN w)) w ≤ 0 ∧ cnR w (V.int (wholeN w + 1)) < 0 := by
  obtain ⟨_, hx⟩ := whole_yes h
  have he := numOk_n h.1
  obtain ⟨k, hk⟩ : ∃ k, (-w.e).toNat = k := ⟨_, rfl⟩
  rw [hx, hk]
  have hp := pow_pos_int k
  have h1 := Int.emod_add_mul_ediv w.n (10 ^ k)
  have h2 := Int.emod_nonneg w.n (show (10 : Int) ^ k ≠ 0 by omega)
  have h3 := Int.emod_lt_of_pos w.n (show (0 : Int) < 10 ^ k by omega)
  have hq := pow_pos_int (20 - k)
  have tw : w.tv = w.n * 10 ^ (20 - k) := by unfold V.tv; rw [show (w.e + 20).toNat = 20 - k by omega]
  have ti : ∀ x : Int, (V.int x).tv = 10 ^ k * x * 10 ^ (20 - k) := fun x => by
    show x * 10 ^ 20 = _
    rw [Int.mul_comm (10 ^ k) x, Int.mul_assoc, ← Int.pow_add, show k + (20 - k) = 20 by omega]
  have c1 := cn_sign (int_ok (w.n / 10 ^ k)) h.1
  have c2 := cn_sign h.1 (int_ok (w.n / 10 ^ k + 1))
  rw [tw, ti] at c1 c2
  have e1 : 10 ^ k * (w.n / 10 ^ k) * 10 ^ (20 - k) ≤ w.n * 10 ^ (20 - k) := Int.mul_le_mul_of_nonneg_right (by omega) (by omega)
  have e2 : w.n * 10 ^ (20 - k) < 10 ^ k * (w.n / 10 ^ k + 1) * 10 ^ (20 - k) := Int.mul_lt_mul_of_pos_right (by rw [Int.mul_add]; omega) (by omega)
  omega
end Go.Proofs.YtbfddabljkoapaaGreatDoor

/-
  The reference's copy of a value, l02Copy: the same tree in new memory, each row in a block of its own.
-/
namespace Go.Proofs.YtbfddabljkoapaaGreatDoor
open Go.RowKit
set_option linter.unusedVariables false
set_option linter.unusedSimpArgs false

/-- What a copy hands back. -/
def Copied (v : V) (w : World) (e : Ending) (w' : World) : Prop := ∃ A' c' F, e = .returned (v.agg A' c') ∧ v.kids.length ≤ c' ∧ Vs.lies w' v.kids A' F ∧ F.Nodup ∧ (∀ c ∈ F, w.heap.size ≤ c) ∧ Below w.heap.size w w'
def CopySaid (v : V) : Prop := ∀ (A : Option Addr) (cap : Nat) (w : World), v.nodes ≤ 1048577 → Vs.at_ w 0 w.heap.size v.kids A →
    Calls Tryz.prog 93 #[v.agg A cap] w (Copied v w)
def CopyAllSaid (l : List V) : Prop := ∀ (A : Option Addr) (cap : Nat) (w : World), l.length ≤ 1048576 → Vs.nodes l ≤ 1048576 → Vs.at_ w 0 w.heap.size l A →
    Calls Tryz.prog 134 #[.slice A l.length cap] w fun e w' => ∃ A' c' F, e = .returned (.slice A' l.length c') ∧ l.length ≤ c' ∧ Vs.lies w' l A' F ∧ F.Nodup ∧ (∀ c ∈ F, w.heap.size ≤ c) ∧ Below w.heap.size w w'

/-- What the copying loops have laid. -/
def CpRel (l : List V) (w : World) (o i : Value) (wr : World) : Prop :=
  ∃ (j : Nat) (es : List Ent) (G : List Nat), j ≤ l.length ∧ i = .int .i64 j ∧ es.map (·.1) = l.take j ∧ RowOf wr w.heap.size o es G ∧ Below w.heap.size w wr
theorem cp_next {l : List V} {w wr w1 w' : World} {j : Nat} {es : List Ent} {G F : List Nat} {o v' : Value} (hj : j < l.length) (he : es.map (·.1) = l.take j) (hr : RowOf wr w.heap.size o es G) (hb : Below w.heap.size w wr) {A : Option Addr} {c : Nat}
    (hc : (l[j]).kids.length ≤ c) (hl : Vs.lies w1 (l[j]).kids A F) (hnd : F.Nodup) (hF : ∀ x ∈ F, wr.heap.size ≤ x) (hb1 : Below wr.heap.size wr w1) {w2 : World} (h2 : Below w1.heap.size w1 w2)
    (hown' : w'.ownsRow w.heap.size 43 5 v' (es.length + 1) (flat es ++ Ent.cells (l[j], A, c))) (hg : w2.grownBy w' o.ownBlock) (hv : v'.ownBlock = o.ownBlock ∨ v'.ownBlock = some w2.heap.size) :
    CpRel l w v' (.int .i64 ((j : Int) + 1)) w' := by
  have hr1 := hr.below (Nat.le_refl _) hb1
  have hlt := hr.lt
  have h := hr1.push hc hl hnd (fun x hx => Nat.le_trans hb.size (hF x hx)) (fun x hx hG => by have := hlt x hG; have := hF x hx; omega)
    (fun g hg' hx => by have := (hr.own.lt g hg').2; have := hF g hx; omega) h2 hown' hg hv
  refine ⟨j + 1, _, _, by omega, by go_num, ?_, h, ?_⟩
  · rw [List.map_append, he, List.take_succ_eq_append_getElem hj]; rfl
  · have hb3 := (hb.trans (hb1.mono hb.size)).trans (h2.mono (Nat.le_trans hb.size hb1.size))
    exact hb3.grown hg hb3.size (fun k hk => (hr.own.lt k hk).1)
theorem ent_ones (x : Ent) : ∀ u ∈ x.cells, u.oneCell' = true := by
  intro u hu
  simp [Ent.cells] at hu
  rcases hu with rfl | rfl | rfl | rfl | rfl <;> rfl

set_option maxHeartbeats 1000000 in
theorem copyAll_step (l : List V) (hk : ∀ i (h : i < l.length), CopySaid l[i]) : CopyAllSaid l := by
  intro A cap w hl hn hat
  have HK := fun (i : Nat) (h : i < l.length) (A' : Option Addr) (c : Nat) (w' : World) (hat' : Vs.at_ w' 0 w'.heap.size (l[i]).kids A') => hk i h A' c w' (by have := Vs.nodes_get i h; omega) hat'
  have HC := Lib.hid HK
  have HA := Lib.hid hat
  clear HK hk hat
  go_enter Tryz.func134, Tryz.ntmps134
  go_wp2_with fail
  go_loopw [3, 4] (fun o i wr => CpRel l w o i wr) (fun _ i _ => l.length - (intOf i).toNat)
  case atStart => exact ⟨0, [], [], Nat.zero_le _, rfl, rfl, RowOf.none (own_empty w _ _), (Below.refl _ _).alloc (Nat.le_refl _) _⟩
  case round =>
    obtain ⟨j, es, G, hj, rfl, he, hr, hb⟩ := hrel
    have hel : es.length = j := by have := congrArg List.length he; simpa [Nat.min_eq_left hj] using this
    have HE := Lib.hid he
    have HR := Lib.hid hr
    have HEL := Lib.hid hel
    clear he hr hel
    by_cases hlt : j < l.length
    · obtain ⟨b, off, A', cap', rfl, g1, g2, g3, ⟨c0, c1, c2, c3, c4⟩, g5⟩ := Vs.at_get j hlt (Vs.at_below HA.out hb (Nat.le_refl _))
      go_wp2_with fail
      refine (HC.out j hlt A' cap' _ (Vs.at_more (Nat.le_refl _) hb.size _ _ g5)).mono ?_
      rintro e w1 ⟨A2, c2', F, rfl, hc2, hl2, hnd2, hF2, hb1⟩
      have hr1 := (HR.out.below (Nat.le_refl _) hb1).own
      have hbw := hb.trans (hb1.mono hb.size)
      have hcn := cells_new w1 (Ent.cells (l[j], A2, c2')).toArray 43
      have HO := Lib.hid hr1
      have HN := Lib.hid hcn
      have HL2 := Lib.hid hl2
      have HND := Lib.hid hnd2
      have HF2 := Lib.hid hF2
      have hsmall : es.length ≤ 1048576 := by have := HEL.out; omega
      clear c0 c1 c2 c3 c4 hr1 hcn hl2 hnd2 hF2
      unfold V.agg
      go_wp2_with (at_builtin; refine wpList_app2 rfl (.tmp 12) (.tmp 18) 41 rfl w.heap.size 43 Tryz.underlying41 infoV rfl (by decide) rfl (HO.out.alloc _) (Nat.le_trans hbw.size (by simp)) _ 1 1 (Ent.cells (l[j], A2, c2')) rfl rfl HN.out (ent_ones _) (by unfold maxLen; omega) (by omega) ?_; intro v' w' hown' hg' hv')
      go_roundw
      case rel => exact cp_next hlt HE.out HR.out hb hc2 HL2.out HND.out HF2.out hb1 ((Below.refl _ w1).alloc (Nat.le_refl _) _) hown' hg' hv'
      case measure => simp [intOf]; omega
    · obtain rfl : j = l.length := by omega
      have HLL := Lib.hid (HR.out.lies)
      go_wp2_with fail
      go_ret
      obtain ⟨A2, c2, F, rfl, h2, h3, h4, h5⟩ := HLL.out
      rw [HE.out, List.take_length] at h3
      have h6 := HEL.out
      exact ⟨A2, c2, F, by rw [← h6]; rfl, by omega, h3, h4, h5, hb⟩

set_option maxHeartbeats 1000000 in
theorem copy_step (v : V) (hk : CopyAllSaid v.kids) : CopySaid v := by
  intro A cap w hn hat
  rw [V.nodes_eq] at hn
  have hl : v.kids.length ≤ 1048576 := by have := Vs.len_nodes v.kids; omega
  have HK := fun (c : Nat) (w' : World) (hat' : Vs.at_ w' 0 w'.heap.size v.kids A) => hk A c w' hl (by omega) hat'
  have HC := Lib.hid HK
  have HA := Lib.hid hat
  clear HK hk hat
  unfold V.agg
  go_enter Tryz.func93, Tryz.ntmps93
  go_wp2_with fail
  obtain ⟨w2, hw2⟩ : ∃ w2, w2 = ((w.alloc (.cells #[.int .i64 v.k, .int .i64 v.n, .int .i64 v.e, .string v.s, .slice A v.kids.length cap] 43)).alloc (.cells #[.int .i64 0, .int .i64 0, .int .i64 0, .string ⟨#[]⟩, .slice none 0 0] 43)).alloc (.cells #[.int .i64 v.k, .int .i64 v.n, .int .i64 v.e, .string v.s, .slice A v.kids.length cap] 43) := ⟨_, rfl⟩
  have z2 : w2.heap.size = w.heap.size + 3 := by rw [hw2]; simp
  have b2 : Below w.heap.size w w2 := by rw [hw2]; exact (((Below.refl _ w).alloc (Nat.le_refl _) _).alloc (by simp) _).alloc (by simp; omega) _
  have B1 : Blk w2 (w.heap.size + 1) 43 #[.int .i64 0, .int .i64 0, .int .i64 0, .string ⟨#[]⟩, .slice none 0 0] := by
    have h := (Blk.new (w.alloc (.cells #[.int .i64 v.k, .int .i64 v.n, .int .i64 v.e, .string v.s, .slice A v.kids.length cap] 43)) 43 #[.int .i64 0, .int .i64 0, .int .i64 0, .string ⟨#[]⟩, .slice none 0 0]).alloc (.cells #[.int .i64 v.k, .int .i64 v.n, .int .i64 v.e, .string v.s, .slice A v.kids.length cap] 43)
    rw [← hw2] at h
    simpa using h
  have B2 : Blk w2 (w.heap.size + 2) 43 #[.int .i64 v.k, .int .i64 v.n, .int .i64 v.e, .string v.s, .slice A v.kids.length cap] := by
    have h := Blk.new ((w.alloc (.cells #[.int .i64 v.k, .int .i64 v.n, .int .i64 v.e, .string v.s, .slice A v.kids.length cap] 43)).alloc (.cells #[.int .i64 0, .int .i64 0, .int .i64 0, .string ⟨#[]⟩, .slice none 0 0] 43)) 43 #[.int .i64 v.k, .int .i64 v.n, .int .i64 v.e, .string v.s, .slice A v.kids.length cap]
    rw [← hw2] at h
    simpa using h
  rw [← hw2]
  clear hw2
  refine (HC.out _ w2 (Vs.at_more (Nat.le_refl _) b2.size _ _ (Vs.at_below HA.out b2 (Nat.le_refl _)))).mono ?_
  rintro e w3 ⟨A', c', F, rfl, hc', hl3, hnd, hF, hb3⟩
  have B13 := B1.below hb3 (by omega)
  have B23 := B2.below hb3 (by omega)
  have hbw := b2.trans (hb3.mono b2.size)
  have z3 : w.heap.size + 3 ≤ w3.heap.size := by have := hb3.size; omega
  obtain ⟨p0, p1, p2, p3, p4⟩ := B13.five
  obtain ⟨q0, q1, q2, q3, q4⟩ := B23.five
  have f0 := B13.frozen 0
  have f1 := B13.frozen 1
  have f2 := B13.frozen 2
  have f3 := B13.frozen 3
  have f4 := B13.frozen 4
  have g4 := B23.frozen 4
  have HL := Lib.hid hl3
  have HND := Lib.hid hnd
  have HF := Lib.hid hF
  have HB := Lib.hid hbw
  clear hl3 hnd hF hbw hb3 b2 B1 B2 B13 B23
  go_wp2_with fail
  refine bodyPost_ret (v := .agg #[.int .i64 v.k, .int .i64 v.n, .int .i64 v.e, .string v.s, .slice A' v.kids.length c']) (by simp [results, Tryz.results93, go_sem, p0, p1, p2, p3, p4, q0, q1, q2, q3]) rfl ⟨A', c', F, rfl, hc', Vs.lies_same HL.out ⟨by simp, fun c hc => ?_⟩, HND.out, fun c hc => by have := HF.out c hc; omega, ?_⟩
  · have h1 : c ≠ w.heap.size + 1 := by have := HF.out c hc; omega
    have h2 : c ≠ w.heap.size + 2 := by have := HF.out c hc; omega
    simp only [Below.heap_setCell _ (⟨w.heap.size + 1, _, none⟩ : Addr) _ _ (show c ≠ _ from h1), Below.heap_setCell _ (⟨w.heap.size + 2, _, none⟩ : Addr) _ _ (show c ≠ _ from h2)]
  · repeat (refine Below.setCell ?_ (by simp; try omega) _)
    exact HB.out

theorem copy_all : ∀ (N : Nat), (∀ l : List V, Vs.nodes l ≤ N → CopyAllSaid l) := by
  intro N
  induction N with
  | zero =>
    intro l h
    refine copyAll_step l fun i hi => ?_
    have h1 := Vs.nodes_get i hi
    have h2 := V.nodes_pos l[i]
    omega
  | succ N ih =>
    intro l h
    refine copyAll_step l fun i hi => copy_step _ (ih _ ?_)
    have h1 := Vs.nodes_get i hi
    rw [V.nodes_eq] at h1
    omega
theorem specCopy (v : V) : CopySaid v := copy_step v (copy_all _ _ (Nat.le_refl _))
end Go.Proofs.YtbfddabljkoapaaGreatDoor

/-
  The draws of FnOrder.
-/
namespace Go.Proofs.YtbfddabljkoapaaGreatDoor
open Go.RowKit
set_option linter.unusedVariables false
set_option linter.unusedSimpArgs false
set_option maxRecDepth 100000

set_option maxHeartbeats 4000000 in
theorem drawWhole (A : Option Addr) (cap : Nat) (code : List UInt8) (w : World) (hat : At1 w w.heap.size A (code.map bv)) (hn : code.length ≤ 1000000000) :
    Calls Tryz.prog 45 #[.slice A code.length cap] w (DrewV w) := by
  have HN := Lib.hid (dNew1 A cap code w (.cells #[.int .i64 0, .int .i64 0, .int .i64 0, .string ⟨#[]⟩, .slice none 0 0] 43) hat hn)
  have B0 := Lib.hid (Blk.new w 43 #[.int .i64 0, .int .i64 0, .int .i64 0, .string ⟨#[]⟩, .slice none 0 0])
  have b0 : Below w.heap.size w (w.alloc (.cells #[.int .i64 0, .int .i64 0, .int .i64 0, .string ⟨#[]⟩, .slice none 0 0] 43)) := (Below.refl _ w).alloc (Nat.le_refl _) _
  have Z0 : Hid ((w.alloc (.cells #[.int .i64 0, .int .i64 0, .int .i64 0, .string ⟨#[]⟩, .slice none 0 0] 43)).heap.size = w.heap.size + 1) := Lib.hid (by simp)
  clear hat
  go_enter Tryz.func45, Tryz.ntmps45
  go_wp2_with fail
  refine HN.out.mono ?_
  rintro e w1 ⟨rfl, hc1, hb1⟩
  have B1 := Lib.hid (B0.out.below hb1 (by omega))
  have b1 := b0.trans (hb1.mono (by omega))
  have hz1 : w.heap.size < w1.heap.size := B1.out.lt
  clear hb1 b0 B0 HN Z0
  go_wp2_with fail
  refine (dNum _ A cap code w1 hc1).mono ?_
  rintro e w2 hdv
  obtain ⟨v, B, c, F, rfl, h1, h2, h3, h4, h5, h6, h7⟩ := hdv.opened
  have B2 := Lib.hid (res_cells B1.out (by omega) h7.2)
  have HR := Lib.hid (fun (W : World) (hg : Gr w.heap.size w2 W) => DrewV.of (e := .returned (v.agg B c)) rfl h1 h2 h3 h4 h6 b1 (by omega) hz1 h7 hg)
  clear h1 h2 h3 h4 h5 h6 h7 hdv B1
  have B9 := B2.out
  obtain ⟨p0, p1, p2, p3, p4⟩ := B9.five
  have f0 := B9.frozen 0
  have f1 := B9.frozen 1
  have f2 := B9.frozen 2
  have f3 := B9.frozen 3
  have f4 := B9.frozen 4
  clear B9
  unfold V.agg
  go_wp2_with fail
  refine bodyPost_ret (v := v.agg B c) (by simp [results, Tryz.results45, go_sem, p0, p1, p2, p3, p4, V.agg]) rfl (HR.out _ ?hd)
  case hd => repeat (first | exact Gr.refl _ _ | (refine Gr.trans ?_ (Gr.set _ _ _ _)))
/-- What drawing two values hands back. -/
def DrewV2 (w : World) (e : Ending) (w' : World) : Prop := ∃ (v u : V) (B C : Option Addr) (c d : Nat), e = .returned (.tuple #[v.agg B c, u.agg C d]) ∧ (v.fits ∧ v.weight ≤ 1400 ∧ v.kids.length ≤ c ∧ Vs.at_ w' 0 w'.heap.size v.kids B) ∧ (u.fits ∧ u.weight ≤ 1400 ∧ u.kids.length ≤ d ∧ Vs.at_ w' 0 w'.heap.size u.kids C) ∧ Below w.heap.size w w'
theorem dNewAt (A : Option Addr) (cap : Nat) (code : List UInt8) (w W : World) (hb : Below w.heap.size w W) (hat : At1 w w.heap.size A (code.map bv)) (hn : code.length ≤ 1000000000) :
    Calls Tryz.prog 49 #[.slice A code.length cap] W fun e w' => e = .returned (.pointer (some ⟨W.heap.size, 0, none⟩)) ∧ Cur w' W.heap.size A cap code ∧ Below W.heap.size W w' :=
  dNew A cap code W ((hat.below hb (Nat.le_refl _)).more hb.size) hn
theorem lies_drawn {w w' : World} {b : Nat} {A : Option Addr} {cap : Nat} {code : List UInt8} {l : List V} {B : Option Addr} {F : List Nat} (h : Vs.lies w l B F) (hF : ∀ x ∈ F, x ≠ b) (hd : Drawn w b A cap code w') : Vs.lies w' l B F :=
  Vs.lies_same h ⟨hd.2.size, fun x hx => hd.2.block x (lies_lt h x hx) (by intro e; injection e with e; exact hF x hx e)⟩
theorem lies_gr {w W : World} {l : List V} {B : Option Addr} {F : List Nat} {r lo : Nat} (h : Vs.lies w l B F) (hF : ∀ x ∈ F, lo ≤ x) (hr : r < lo) (hg : Gr r w W) : Vs.lies W l B F :=
  Vs.lies_same h ⟨hg.size, fun x hx => hg.block x (lies_lt h x hx) (by intro e; injection e with e; have := hF x hx; omega)⟩
/-- No block above r changed. -/
def Far (r : Nat) (w W : World) : Prop := w.heap.size ≤ W.heap.size ∧ ∀ k, r < k → k < w.heap.size → W.heap[k]? = w.heap[k]?
theorem Far.refl (r : Nat) (w : World) : Far r w w := ⟨Nat.le_refl _, fun _ _ _ => rfl⟩
theorem Far.set {r p : Nat} {w W : World} (h : Far r w W) (hp : p ≤ r) (i : Nat) (u : Value) : Far r w (W.setCell ⟨p, i, none⟩ u) :=
  ⟨by simpa using h.1, fun k h1 h2 => (Below.heap_setCell W ⟨p, i, none⟩ u k (show k ≠ p by omega)).trans (h.2 k h1 h2)⟩
theorem lies_far {w W : World} {l : List V} {B : Option Addr} {F : List Nat} {r : Nat} (h : Vs.lies w l B F) (hF : ∀ x ∈ F, r < x) (hf : Far r w W) : Vs.at_ W 0 W.heap.size l B :=
  Vs.lies_at (Vs.lies_same h ⟨hf.1, fun x hx => hf.2 x (hF x hx) (lies_lt h x hx)⟩) (fun _ _ => Nat.zero_le _)
/-- Five cells stored. -/
def st5 (w : World) (p : Nat) (a b c d e : Value) : World := ((((w.setCell ⟨p, 0, none⟩ a).setCell ⟨p, 1, none⟩ b).setCell ⟨p, 2, none⟩ c).setCell ⟨p, 3, none⟩ d).setCell ⟨p, 4, none⟩ e
theorem st5_blk {w : World} {p : Nat} {t : TypeId} {x0 x1 x2 x3 x4 : Value} (h : Blk w p t #[x0, x1, x2, x3, x4]) (a b c d e : Value) : Blk (st5 w p a b c d e) p t #[a, b, c, d, e] := by
  have h2 := ((((h.set 0 a).set 1 b).set 2 c).set 3 d).set 4 e
  unfold st5
  simpa using h2
theorem st5_gr (w : World) (p : Nat) (a b c d e : Value) : Gr p w (st5 w p a b c d e) := by
  unfold st5
  repeat (first | exact Gr.refl _ _ | (refine Gr.trans ?_ (Gr.set _ _ _ _)))
theorem st5_other {w : World} {p q : Nat} {t : TypeId} {cs : Array Value} (h : Blk w q t cs) (hq : q ≠ p) (a b c d e : Value) : Blk (st5 w p a b c d e) q t cs :=
  ((st5_gr w p a b c d e).block q h.lt (by intro e; injection e with e; exact hq e)).trans h
theorem st5_far {r p : Nat} {w W : World} (h : Far r w W) (hp : p ≤ r) (a b c d e : Value) : Far r w (st5 W p a b c d e) := by
  unfold st5
  exact ((((h.set hp 0 a).set hp 1 b).set hp 2 c).set hp 3 d).set hp 4 e
theorem st5_below {B p : Nat} {w W : World} (h : Below B w W) (hp : B ≤ p) (a b c d e : Value) : Below B w (st5 W p a b c d e) := by
  unfold st5
  exact ((((h.setCell hp a).setCell hp b).setCell hp c).setCell hp d).setCell hp e
set_option maxHeartbeats 4000000 in
theorem drawCompareNum (A : Option Addr) (cap : Nat) (code : List UInt8) (w : World) (hat : At1 w w.heap.size A (code.map bv)) (hn : code.length ≤ 1000000000) :
    Calls Tryz.prog 43 #[.slice A code.length cap] w (DrewV2 w) := by
  have HN := Lib.hid (fun W hb => dNewAt A cap code w W hb hat hn)
  clear hat
  go_enter Tryz.func43, Tryz.ntmps43
  go_wp2_with fail
  obtain ⟨v2, hv2, R0, R1, b0, z0⟩ := two_new w 43 43 #[.int .i64 0, .int .i64 0, .int .i64 0, .string ⟨#[]⟩, .slice none 0 0] #[.int .i64 0, .int .i64 0, .int .i64 0, .string ⟨#[]⟩, .slice none 0 0]
  rw [← hv2]
  clear hv2
  refine (HN.out v2 b0).mono ?_
  rintro e w1 ⟨rfl, hc1, hb1⟩
  have R01 := Lib.hid (R0.below hb1 (by omega))
  have R11 := Lib.hid (R1.below hb1 (by omega))
  have b1 := b0.trans (hb1.mono (by omega))
  have hz1 := hc1.lt
  obtain ⟨b, hb⟩ : ∃ b, b = v2.heap.size := ⟨_, rfl⟩
  rw [← hb] at hc1 hz1 ⊢
  have hbw : w.heap.size + 1 < b := by omega
  clear hb1 b0 R0 R1 HN z0 hb
  go_wp2_with fail
  refine (dNum b A cap code w1 hc1).mono ?_
  rintro e w2 hdv
  obtain ⟨v, B, c, F, rfl, h1, h2, h3, h4, h5, h6, h7⟩ := hdv.opened
  have H1 := Lib.hid h1
  have H4 := Lib.hid h4
  have H6 := Lib.hid h6
  have D2 := Lib.hid h7
  have R02 := Lib.hid (res_cells R01.out (by omega) h7.2)
  have R12 := Lib.hid (res_cells R11.out (by omega) h7.2)
  have hz2 := h7.2.size
  clear h1 h4 h5 h6 h7 hdv R01 R11
  unfold V.agg
  go_wp2_with fail
  refine Calls.atW (fun W => Hid (Blk W w.heap.size 43 #[.int .i64 0, .int .i64 0, .int .i64 0, .string ⟨#[]⟩, .slice none 0 0]) ∧ Hid (Blk W (w.heap.size + 1) 43 #[.int .i64 0, .int .i64 0, .int .i64 0, .string ⟨#[]⟩, .slice none 0 0]) ∧ Hid (Blk W w2.heap.size 43 #[.int .i64 v.k, .int .i64 v.n, .int .i64 v.e, .string v.s, .slice B v.kids.length c]) ∧ Hid (Drawn w1 b A cap code W) ∧ Hid (Vs.lies W v.kids B F)) ⟨Lib.hid (R02.out.alloc _), Lib.hid (R12.out.alloc _), Lib.hid (Blk.new _ _ _), Lib.hid (D2.out.trans (Drawn.alloc D2.out.1 _)), Lib.hid (lies_below H4.out ((Below.refl _ w2).alloc (Nat.le_refl _) _) (lies_lt H4.out))⟩ ?_
  clear R02 R12 D2 H4
  rintro w3 ⟨R03, R13, P3, D3, L3⟩
  refine (dOnce 4 b A cap code w3 (by omega) (by omega) D3.out.1).mono ?_
  rintro e w4 ⟨⟨r, rfl⟩, hd4⟩
  have R04 := Lib.hid (res_cells R03.out (by omega) hd4.2)
  have R14 := Lib.hid (res_cells R13.out (by omega) hd4.2)
  have P4 := Lib.hid (res_cells P3.out (by omega) hd4.2)
  have L4 := Lib.hid (lies_drawn L3.out (fun x hx => by have := H6.out x hx; omega) hd4)
  have D4 := Lib.hid (D3.out.trans hd4)
  have hz4 := D4.out.2.size
  have hp4 : w2.heap.size < w4.heap.size := P4.out.lt
  clear hd4 R03 R13 P3 D3 L3
  cases r with
  | true =>
    have B9 := R04.out
    obtain ⟨p0, p1, p2, p3, p4⟩ := B9.five
    have f0 := B9.frozen 0
    have f1 := B9.frozen 1
    have f2 := B9.frozen 2
    have f3 := B9.frozen 3
    have f4 := B9.frozen 4
    clear B9
    have B9 := R14.out
    obtain ⟨q0, q1, q2, q3, q4⟩ := B9.five
    have g0 := B9.frozen 0
    have g1 := B9.frozen 1
    have g2 := B9.frozen 2
    have g3 := B9.frozen 3
    have g4 := B9.frozen 4
    clear B9
    have B9 := P4.out
    obtain ⟨r0, r1, r2, r3, r4⟩ := B9.five
    clear B9
    have hnd : v.nodes ≤ 1048577 := by have := V.nodes_weight v; omega
    go_upto_region 4 with fail
    go_region_with (first
      | (go_at_call 93
         refine (specCopy v B c _ hnd (Vs.at_drew (Vs.lies_at L4.out (fun _ _ => Nat.zero_le _)))).mono ?_
         rintro e w5 ⟨A2, c2, F2, rfl, g3, g4, g5, g6, hb5⟩
         have R05 := Lib.hid ((show Blk w4.drew _ _ _ from R04.out).below hb5 (by show _ < w4.heap.size; omega))
         have R15 := Lib.hid ((show Blk w4.drew _ _ _ from R14.out).below hb5 (by show _ < w4.heap.size; omega))
         have P5 := Lib.hid ((show Blk w4.drew _ _ _ from P4.out).below hb5 (by show _ < w4.heap.size; omega))
         have HRES := Lib.hid (fun (W : World) (hf : Far (w.heap.size + 1) w5 W) (hd : Below w.heap.size w5 W) => (⟨v, v, B, A2, c, c2, rfl, ⟨H1.out, h2, h3, lies_far (lies_below L4.out ((show Below w4.heap.size w4 w4.drew from (Below.refl _ w4).drew).trans hb5) (lies_lt L4.out)) (fun x hx => by have := H6.out x hx; omega) hf⟩, ⟨H1.out, h2, g3, lies_far g4 (fun x hx => by have h := g6 x hx; have h' : w4.heap.size ≤ x := h; omega) hf⟩, ((D4.out.toBelow b1 (by omega)).trans ((Below.refl w.heap.size w4).drew.trans (hb5.mono (by show w.heap.size ≤ w4.heap.size; omega)))).trans hd⟩ : DrewV2 w (.returned (.tuple #[v.agg B c, v.agg A2 c2])) W))
         clear g4 g5 g6 hb5
         obtain ⟨s0, s1, s2, s3, s4⟩ := P5.out.five
         obtain ⟨t0, t1, t2, t3, t4⟩ := R05.out.five
         have k0 := R05.out.frozen 0
         have k1 := R05.out.frozen 1
         have k2 := R05.out.frozen 2
         have k3 := R05.out.frozen 3
         have k4 := R05.out.frozen 4
         obtain ⟨u0, u1, u2, u3, u4⟩ := R15.out.five
         have l0 := R15.out.frozen 0
         have l1 := R15.out.frozen 1
         have l2 := R15.out.frozen 2
         have l3 := R15.out.frozen 3
         have l4 := R15.out.frozen 4
         unfold V.agg))
    all_goals
      obtain ⟨W, hW⟩ : ∃ W, W = st5 (st5 w5 w.heap.size (.int .i64 v.k) (.int .i64 v.n) (.int .i64 v.e) (.string v.s) (.slice B v.kids.length c)) (w.heap.size + 1) (.int .i64 v.k) (.int .i64 v.n) (.int .i64 v.e) (.string v.s) (.slice A2 v.kids.length c2) := ⟨_, rfl⟩
      have X0 : Blk W w.heap.size 43 #[.int .i64 v.k, .int .i64 v.n, .int .i64 v.e, .string v.s, .slice B v.kids.length c] := by rw [hW]; exact st5_other (st5_blk R05.out _ _ _ _ _) (by omega) _ _ _ _ _
      have X1 : Blk W (w.heap.size + 1) 43 #[.int .i64 v.k, .int .i64 v.n, .int .i64 v.e, .string v.s, .slice A2 v.kids.length c2] := by rw [hW]; exact st5_blk (st5_other R15.out (by omega) _ _ _ _ _) _ _ _ _ _
      have HD := Lib.hid (HRES.out W (by rw [hW]; exact st5_far (st5_far (Far.refl _ _) (by omega) _ _ _ _ _) (Nat.le_refl _) _ _ _ _ _) (by rw [hW]; exact st5_below (st5_below (Below.refl _ _) (Nat.le_refl _) _ _ _ _ _) (by omega) _ _ _ _ _))
      unfold st5 at hW
      rw [← hW]
      clear hW HRES k0 k1 k2 k3 k4 l0 l1 l2 l3 l4 s0 s1 s2 s3 s4 t0 t1 t2 t3 t4 u0 u1 u2 u3 u4
      obtain ⟨t0, t1, t2, t3, t4⟩ := X0.five
      obtain ⟨u0, u1, u2, u3, u4⟩ := X1.five
      go_wp2_with fail
      refine bodyPost_ret (v := .tuple #[v.agg B c, v.agg A2 c2]) (by simp [results, Tryz.results43, go_sem, t0, t1, t2, t3, t4, u0, u1, u2, u3, u4, V.agg]) rfl HD.out
  | false =>
    have B9 := R04.out
    obtain ⟨p0, p1, p2, p3, p4⟩ := B9.five
    have f0 := B9.frozen 0
    have f1 := B9.frozen 1
    have f2 := B9.frozen 2
    have f3 := B9.frozen 3
    have f4 := B9.frozen 4
    clear B9
    have B9 := R14.out
    obtain ⟨q0, q1, q2, q3, q4⟩ := B9.five
    have g0 := B9.frozen 0
    have g1 := B9.frozen 1
    have g2 := B9.frozen 2
    have g3 := B9.frozen 3
    have g4 := B9.frozen 4
    clear B9
    have B9 := P4.out
    obtain ⟨r0, r1, r2, r3, r4⟩ := B9.five
    clear B9
    go_upto_region 5 with fail
    have HMD := Lib.hid (D4.out.1.drew)
    go_region_with (first
      | (go_at_call 76
         refine (dNum b A cap code _ HMD.out).mono ?_
         rintro e w5 hdv
         obtain ⟨u, C, d, F2, rfl, g1, g2, g3, g4, g5, g6, g7⟩ := hdv.opened
         have hd5 := Drawn.undrew g7
         have R05 := Lib.hid (res_cells R04.out (by omega) hd5.2)
         have R15 := Lib.hid (res_cells R14.out (by omega) hd5.2)
         have P5 := Lib.hid (res_cells P4.out (by omega) hd5.2)
         have HRES := Lib.hid (fun (W : World) (hf : Far (w.heap.size + 1) w5 W) (hd : Below w.heap.size w5 W) => (⟨v, u, B, C, c, d, rfl, ⟨H1.out, h2, h3, lies_far (lies_drawn L4.out (fun x hx => by have := H6.out x hx; omega) hd5) (fun x hx => by have := H6.out x hx; omega) hf⟩, ⟨g1, g2, g3, lies_far g4 (fun x hx => by have h := g6 x hx; have h' : w4.heap.size ≤ x := h; omega) hf⟩, ((D4.out.trans hd5).toBelow b1 (by omega)).trans hd⟩ : DrewV2 w (.returned (.tuple #[v.agg B c, u.agg C d])) W))
         clear g1 g4 g5 g6 g7 hdv
         have hz5 := hd5.2.size
         clear hd5
         obtain ⟨s0, s1, s2, s3, s4⟩ := P5.out.five
         obtain ⟨t0, t1, t2, t3, t4⟩ := R05.out.five
         have k0 := R05.out.frozen 0
         have k1 := R05.out.frozen 1
         have k2 := R05.out.frozen 2
         have k3 := R05.out.frozen 3
         have k4 := R05.out.frozen 4
         obtain ⟨u0, u1, u2, u3, u4⟩ := R15.out.five
         have l0 := R15.out.frozen 0
         have l1 := R15.out.frozen 1
         have l2 := R15.out.frozen 2
         have l3 := R15.out.frozen 3
         have l4 := R15.out.frozen 4
         unfold V.agg))
    all_goals
      obtain ⟨W, hW⟩ : ∃ W, W = st5 (st5 w5 w.heap.size (.int .i64 v.k) (.int .i64 v.n) (.int .i64 v.e) (.string v.s) (.slice B v.kids.length c)) (w.heap.size + 1) (.int .i64 u.k) (.int .i64 u.n) (.int .i64 u.e) (.string u.s) (.slice C u.kids.length d) := ⟨_, rfl⟩
      have X0 : Blk W w.heap.size 43 #[.int .i64 v.k, .int .i64 v.n, .int .i64 v.e, .string v.s, .slice B v.kids.length c] := by rw [hW]; exact st5_other (st5_blk R05.out _ _ _ _ _) (by omega) _ _ _ _ _
      have X1 : Blk W (w.heap.size + 1) 43 #[.int .i64 u.k, .int .i64 u.n, .int .i64 u.e, .string u.s, .slice C u.kids.length d] := by rw [hW]; exact st5_blk (st5_other R15.out (by omega) _ _ _ _ _) _ _ _ _ _
      have HD := Lib.hid (HRES.out W (by rw [hW]; exact st5_far (st5_far (Far.refl _ _) (by omega) _ _ _ _ _) (Nat.le_refl _) _ _ _ _ _) (by rw [hW]; exact st5_below (st5_below (Below.refl _ _) (Nat.le_refl _) _ _ _ _ _) (by omega) _ _ _ _ _))
      unfold st5 at hW
      rw [← hW]
      clear hW HRES k0 k1 k2 k3 k4 l0 l1 l2 l3 l4 s0 s1 s2 s3 s4 t0 t1 t2 t3 t4 u0 u1 u2 u3 u4
      obtain ⟨t0, t1, t2, t3, t4⟩ := X0.five
      obtain ⟨u0, u1, u2, u3, u4⟩ := X1.five
      go_wp2_with fail
      refine bodyPost_ret (v := .tuple #[v.agg B c, u.agg C d]) (by simp [results, Tryz.results43, go_sem, t0, t1, t2, t3, t4, u0, u1, u2, u3, u4, V.agg]) rfl HD.out
end Go.Proofs.YtbfddabljkoapaaGreatDoor

/-
  The reference's order of two numbers and of two texts.
-/
namespace Go.Proofs.YtbfddabljkoapaaGreatDoor
open Go.RowKit
set_option linter.unusedVariables false
set_option maxRecDepth 100000
set_option linter.unusedSimpArgs false

theorem specLess (a b : Int) (w : World) : Calls Tryz.prog 98 #[.int .i64 a, .int .i64 b] w fun e w' => e = .returned (.int .i64 (lessI a b)) ∧ w' = w := by
  by_cases h1 : a < b
  · have h := lessI_lt h1
    have H := Lib.hid h
    clear h
    go_enter Tryz.func98, Tryz.ntmps98
    go_wp2_with fail
    go_ret
    exact ⟨ret_num (by rw [H.out]), rfl⟩
  · by_cases h2 : b < a
    · have h := lessI_gt h2
      have H := Lib.hid h
      clear h
      go_enter Tryz.func98, Tryz.ntmps98
      go_wp2_with fail
      go_ret
      exact ⟨ret_num (by rw [H.out]), rfl⟩
    · obtain rfl : a = b := by omega
      have h := lessI_eq a
      have H := Lib.hid h
      clear h
      go_enter Tryz.func98, Tryz.ntmps98
      go_wp2_with fail
      go_ret
      exact ⟨ret_num (by rw [H.out]), rfl⟩

theorem specTexts (a b : ByteArray) (w : World) : Calls Tryz.prog 139 #[.string a, .string b] w fun e w' => e = .returned (.int .i64 (lessT a b)) ∧ w' = w := by
  by_cases h1 : Op.bytesLess a.toList b.toList = true
  · have h : lessT a b = -1 := by unfold lessT; rw [if_pos h1]
    have H := Lib.hid h
    clear h
    go_enter Tryz.func139, Tryz.ntmps139
    go_wp2_with fail
    go_ret
    exact ⟨ret_num (by rw [H.out]), rfl⟩
  · have h1' : Op.bytesLess a.toList b.toList = false := by simpa using h1
    by_cases h2 : (a.toList == b.toList) = true
    · have h : lessT a b = 0 := by unfold lessT; rw [if_neg h1, if_pos h2]
      have H := Lib.hid h
      clear h h1
      go_enter Tryz.func139, Tryz.ntmps139
      go_wp2_with fail
      go_ret
      exact ⟨ret_num (by rw [H.out]), rfl⟩
    · have h : lessT a b = 1 := by unfold lessT; rw [if_neg h1, if_neg h2]
      have h2' : (a.toList == b.toList) = false := by simpa using h2
      have H := Lib.hid h
      clear h h1 h2
      go_enter Tryz.func139, Tryz.ntmps139
      go_wp2_with fail
      go_ret
      exact ⟨ret_num (by rw [H.out]), rfl⟩
end Go.Proofs.YtbfddabljkoapaaGreatDoor

/-
  CompareNum of the reference.
-/
namespace Go.Proofs.YtbfddabljkoapaaGreatDoor
open Go.RowKit
set_option linter.unusedVariables false
set_option linter.unusedSimpArgs false
set_option maxRecDepth 100000

theorem fits_nC {v : V} (h : v.fits) : (-9223372036854775808 ≤ v.n ∧ v.n ≤ 9223372036854775807) ∧ (-9223372036854775808 ≤ v.e ∧ v.e ≤ 9223372036854775807) := by
  have h3 := (V.fits_eq v).1 h
  have h1 := h3.2.2.2.2.1
  have h2 := h3.2.2.2.2.2
  unfold inI at h1 h2
  exact ⟨h1, h2⟩
set_option maxHeartbeats 1000000 in
theorem specSgn (v : V) (A : Option Addr) (cap : Nat) (w : World) :
    Calls Tryz.prog 97 #[v.agg A cap] w fun e w' => e = .returned (.int .i64 (sgR v)) ∧ Below w.heap.size w w' := by
  unfold V.agg
  go_enter Tryz.func97, Tryz.ntmps97
  go_wp2_with fail
  refine (specLess v.n 0 _).mono ?_
  rintro e w1 ⟨rfl, rfl⟩
  go_wp2_with fail
  go_ret
  exact ⟨rfl, (Below.refl _ w).alloc (Nat.le_refl _) _⟩

/-- What stands while noughts are cut: m of them are left. -/
theorem tail_size (T : List UInt8) (m : Nat) : (str (T ++ List.replicate m 48)).size = T.length + m := by rw [strlen]; simp
theorem tail_cut (T : List UInt8) (m : Nat) : (str (T ++ List.replicate (m + 1) 48)).extract 0 (T.length + m) = str (T ++ List.replicate m 48) := by
  apply ByteArray.ext
  apply Array.ext'
  have e : (T ++ List.replicate (m + 1) 48) = (T ++ List.replicate m 48) ++ [48] := by rw [List.replicate_succ', List.append_assoc]
  rw [e, ByteArray.data_extract]
  simp only [str, Array.toList_extract, List.extract_eq_take_drop, List.drop_zero, Nat.sub_zero]
  exact List.take_left' (by simp)
theorem tail_last (T : List UInt8) (m : Nat) (h : T.length + m < (str (T ++ List.replicate (m + 1) 48)).size) : (str (T ++ List.replicate (m + 1) 48))[T.length + m] = 48 := by
  have h2 : T.length + m < (T ++ List.replicate (m + 1) 48).length := by simp
  have h3 : (T ++ List.replicate (m + 1) 48)[T.length + m] = 48 := by rw [List.getElem_append_right (by omega)]; simp
  exact h3
theorem last_of {l r : List UInt8} {a : UInt8} (h : l = r ++ [a]) (h2 : r.length < (str l).size) : (str l)[r.length]'h2 = a := by
  subst h
  have h4 : r.length < (r ++ [a]).length := by simp
  have h3 : (r ++ [a])[r.length]'h4 = a := by simp
  exact h3
theorem tup_si {s s' : ByteArray} {b b' : Int} (h1 : s = s') (h2 : b = b') : Ending.returned (.tuple #[.string s, .int .i64 b]) = Ending.returned (.tuple #[.string s', .int .i64 b']) := by rw [h1, h2]
set_option maxHeartbeats 8000000 in
theorem specParts (v : V) (A : Option Addr) (cap : Nat) (w : World) (hf : v.fits) (he : -100 ≤ v.e ∧ v.e ≤ 100) :
    Calls Tryz.prog 138 #[v.agg A cap] w fun e w' => e = .returned (.tuple #[.string (str (cutZ v.digs)), .int .i64 v.cutE]) ∧ Below w.heap.size w w' := by
  have HCN := Lib.hid (fun W => (specDecText v.n W (fits_nC hf).1).mono fun e w' h => (⟨h.1, h.2.symm⟩ : e = .returned (.string (str (Lib.itoa v.n))) ∧ w' = W))
  have hvn := (fits_nC hf).1
  have hds : v.digs.length ≤ 19 := dec_len _ (by omega)
  have hcz := cutZ_len v.digs
  obtain ⟨K, hK⟩ : ∃ K, v.digs.length - (cutZ v.digs).length = K := ⟨_, rfl⟩
  have HSP : Hid (str v.digs = str (cutZ v.digs ++ List.replicate K 48)) := Lib.hid (by rw [← hK, ← cutZ_split])
  have HE : Hid (v.cutE = v.e + (K : Int)) := Lib.hid (by unfold V.cutE; rw [hK])
  have hKl : K ≤ 19 := by omega
  clear hf hK
  have b0 : Below w.heap.size w (w.alloc (.cells #[.int .i64 v.k, .int .i64 v.n, .int .i64 v.e, .string v.s, .slice A v.kids.length cap] 43)) := (Below.refl _ w).alloc (Nat.le_refl _) _
  obtain ⟨w0, hw0⟩ : ∃ w0, w0 = w.alloc (.cells #[.int .i64 v.k, .int .i64 v.n, .int .i64 v.e, .string v.s, .slice A v.kids.length cap] 43) := ⟨_, rfl⟩
  have B0 : Blk w0 w.heap.size 43 #[.int .i64 v.k, .int .i64 v.n, .int .i64 v.e, .string v.s, .slice A v.kids.length cap] := by rw [hw0]; exact Blk.new w _ _
  rw [← hw0] at b0
  have HV0 := Lib.hid B0
  have HB0 := Lib.hid b0
  obtain ⟨p0, p1, p2, p3, p4⟩ := B0.five
  clear B0 b0
  unfold V.agg
  go_enter Tryz.func138, Tryz.ntmps138
  go_wp2_with fail
  rw [← hw0]
  clear hw0
  go_quiet ((go_at_call 25; exact Calls.quiet_of_same (HCN.out _)))
  have HB1 : Hid (Below w.heap.size w (w0.drewN nq)) := Lib.hid (below_drewN HB0.out nq)
  have HV1 : Hid (Blk (w0.drewN nq) w.heap.size 43 #[.int .i64 v.k, .int .i64 v.n, .int .i64 v.e, .string v.s, .slice A v.kids.length cap]) := HV0
  obtain ⟨w1, hw1⟩ : ∃ w1, w0.drewN nq = w1 := ⟨_, rfl⟩
  rw [hw1] at HB1 HV1 ⊢
  clear hw1 p0 p1 p2 p3 p4
  obtain ⟨p0, p1, p2, p3, p4⟩ := HV1.out.five
  by_cases hneg : v.n < 0
  · have qn : decide (v.n < 0) = true := decide_eq_true hneg
    have hsz := itoa_size hvn
    have HX := Lib.hid (itoa_cut hneg)
    obtain ⟨s0, hs0⟩ : ∃ s0, str (Lib.itoa v.n) = s0 := ⟨_, rfl⟩
    rw [hs0] at HX hsz ⊢
    have hx : s0.extract 1 s0.size = str v.digs := HX.out
    clear hneg hs0 HX
    go_wp2_with fail
    try rw [hx]
    clear hsz hx

    go_loopw [4, 5] (fun s e wr => ∃ m : Nat, m ≤ K ∧ s = .string (str (cutZ v.digs ++ List.replicate m 48)) ∧ e = .int .i64 (v.e + ((K - m : Nat) : Int)) ∧ Below w.heap.size w wr) (fun s _ _ => (match s with | .string x => x.size | _ => 0))
    case atStart => exact ⟨K, Nat.le_refl _, congrArg Value.string HSP.out, by simp, HB1.out⟩
    case round =>
      obtain ⟨m, hm, rfl, rfl, hb⟩ := hrel
      have hsz0 := tail_size (cutZ v.digs) m
      by_cases hm0 : 0 < m
      · obtain ⟨m, rfl⟩ : ∃ k, m = k + 1 := ⟨m - 1, by omega⟩
        have HC := Lib.hid (tail_cut (cutZ v.digs) m)
        have HZ2 := Lib.hid (tail_size (cutZ v.digs) m)
        clear hsz0
        have hsz0 := tail_size (cutZ v.digs) (m + 1)
        have hl := tail_last (cutZ v.digs) m (by omega)
        obtain ⟨s, hs⟩ : ∃ s, str (cutZ v.digs ++ List.replicate (m + 1) 48) = s := ⟨_, rfl⟩
        simp only [hs] at HC hsz0 hl ⊢
        have hx : ∀ h, (s[s.size - 1]'h).toNat = 48 := by
          intro h
          have : s.size - 1 = (cutZ v.digs).length + m := by omega
          simp only [this, hl]
          rfl
        have hx2 : s.extract 0 (s.size - 1) = str (cutZ v.digs ++ List.replicate m 48) := by
          rw [show s.size - 1 = (cutZ v.digs).length + m by omega]
          exact HC.out
        have HX := Lib.hid hx2
        have hsz : s.size ≤ (cutZ v.digs).length + (m + 1) := by omega
        have hsz3 : (cutZ v.digs).length + (m + 1) ≤ s.size := by omega
        clear hl hs hx2 hsz0
        go_wp2_with fail
        go_roundw
        case rel => exact ⟨m, by omega, congrArg Value.string HX.out, by go_num, hb⟩
        case measure => show ByteArray.size _ < s.size; rw [HX.out, HZ2.out]; omega
      · obtain rfl : m = 0 := by omega
        have hs0 : str (cutZ v.digs ++ List.replicate 0 48) = str (cutZ v.digs) := by simp
        rw [hs0]
        have hzz : (str (cutZ v.digs)).size = (cutZ v.digs).length := strlen _
        have hKe : Hid (v.e + ((K - 0 : Nat) : Int) = v.cutE) := Lib.hid (by rw [HE.out]; simp)
        rcases List.eq_nil_or_concat (cutZ v.digs) with hnil | ⟨r, a, hr⟩
        · have hz : (str (cutZ v.digs)).size = 0 := by rw [hzz, hnil]; rfl
          obtain ⟨s, hs⟩ : ∃ s, str (cutZ v.digs) = s := ⟨_, rfl⟩
          rw [hs] at hz ⊢
          have HS := Lib.hid hs
          clear hs hnil hsz0 hs0 hzz hm0
          go_wp2_with fail
          go_ret2
          exact ⟨tup_si HS.out.symm hKe.out, hb⟩
        · rw [List.concat_eq_append] at hr
          have hz : (str (cutZ v.digs)).size = r.length + 1 := by rw [hzz, hr]; simp
          have ha := cutZ_last hr
          have han : ((a.toNat : Int) == 48) = false := by
            rw [beq_eq_false_iff_ne]
            intro h
            exact ha (UInt8.toNat_inj.1 (show a.toNat = 48 by omega))
          have hx : ∀ h, ((str (cutZ v.digs))[(str (cutZ v.digs)).size - 1]'h).toNat = a.toNat := by
            intro h
            have e1 : (str (cutZ v.digs)).size - 1 = r.length := by omega
            have h2 : r.length < (str (cutZ v.digs)).size := by omega
            have e2 : (str (cutZ v.digs))[r.length]'h2 = a := last_of hr h2
            simp only [e1, e2]
          obtain ⟨s, hs⟩ : ∃ s, str (cutZ v.digs) = s := ⟨_, rfl⟩
          rw [hs] at hz hx ⊢
          have HS := Lib.hid hs
          have hcl := hcz
          rw [hr] at hcl
          simp only [List.length_append, List.length_cons, List.length_nil] at hcl
          have hz3 : s.size ≤ r.length + 1 := by omega
          have hz4 : r.length + 1 ≤ s.size := by omega
          clear hs hr hsz0 hs0 hzz hm0 hz
          go_wp2_with fail
          go_ret2
          exact ⟨tup_si HS.out.symm hKe.out, hb⟩
  · have qn : decide (v.n < 0) = false := decide_eq_false hneg
    have HX := Lib.hid (itoa_nat hneg)
    rw [show str (Lib.itoa v.n) = str v.digs from HX.out]
    clear hneg HX
    go_wp2_with fail

    go_loopw [4, 5] (fun s e wr => ∃ m : Nat, m ≤ K ∧ s = .string (str (cutZ v.digs ++ List.replicate m 48)) ∧ e = .int .i64 (v.e + ((K - m : Nat) : Int)) ∧ Below w.heap.size w wr) (fun s _ _ => (match s with | .string x => x.size | _ => 0))
    case atStart => exact ⟨K, Nat.le_refl _, congrArg Value.string HSP.out, by simp, HB1.out⟩
    case round =>
      obtain ⟨m, hm, rfl, rfl, hb⟩ := hrel
      have hsz0 := tail_size (cutZ v.digs) m
      by_cases hm0 : 0 < m
      · obtain ⟨m, rfl⟩ : ∃ k, m = k + 1 := ⟨m - 1, by omega⟩
        have HC := Lib.hid (tail_cut (cutZ v.digs) m)
        have HZ2 := Lib.hid (tail_size (cutZ v.digs) m)
        clear hsz0
        have hsz0 := tail_size (cutZ v.digs) (m + 1)
        have hl := tail_last (cutZ v.digs) m (by omega)
        obtain ⟨s, hs⟩ : ∃ s, str (cutZ v.digs ++ List.replicate (m + 1) 48) = s := ⟨_, rfl⟩
        simp only [hs] at HC hsz0 hl ⊢
        have hx : ∀ h, (s[s.size - 1]'h).toNat = 48 := by
          intro h
          have : s.size - 1 = (cutZ v.digs).length + m := by omega
          simp only [this, hl]
          rfl
        have hx2 : s.extract 0 (s.size - 1) = str (cutZ v.digs ++ List.replicate m 48) := by
          rw [show s.size - 1 = (cutZ v.digs).length + m by omega]
          exact HC.out
        have HX := Lib.hid hx2
        have hsz : s.size ≤ (cutZ v.digs).length + (m + 1) := by omega
        have hsz3 : (cutZ v.digs).length + (m + 1) ≤ s.size := by omega
        clear hl hs hx2 hsz0
        go_wp2_with fail
        go_roundw
        case rel => exact ⟨m, by omega, congrArg Value.string HX.out, by go_num, hb⟩
        case measure => show ByteArray.size _ < s.size; rw [HX.out, HZ2.out]; omega
      · obtain rfl : m = 0 := by omega
        have hs0 : str (cutZ v.digs ++ List.replicate 0 48) = str (cutZ v.digs) := by simp
        rw [hs0]
        have hzz : (str (cutZ v.digs)).size = (cutZ v.digs).length := strlen _
        have hKe : Hid (v.e + ((K - 0 : Nat) : Int) = v.cutE) := Lib.hid (by rw [HE.out]; simp)
        rcases List.eq_nil_or_concat (cutZ v.digs) with hnil | ⟨r, a, hr⟩
        · have hz : (str (cutZ v.digs)).size = 0 := by rw [hzz, hnil]; rfl
          obtain ⟨s, hs⟩ : ∃ s, str (cutZ v.digs) = s := ⟨_, rfl⟩
          rw [hs] at hz ⊢
          have HS := Lib.hid hs
          clear hs hnil hsz0 hs0 hzz hm0
          go_wp2_with fail
          go_ret2
          exact ⟨tup_si HS.out.symm hKe.out, hb⟩
        · rw [List.concat_eq_append] at hr
          have hz : (str (cutZ v.digs)).size = r.length + 1 := by rw [hzz, hr]; simp
          have ha := cutZ_last hr
          have han : ((a.toNat : Int) == 48) = false := by
            rw [beq_eq_false_iff_ne]
            intro h
            exact ha (UInt8.toNat_inj.1 (show a.toNat = 48 by omega))
          have hx : ∀ h, ((str (cutZ v.digs))[(str (cutZ v.digs)).size - 1]'h).toNat = a.toNat := by
            intro h
            have e1 : (str (cutZ v.digs)).size - 1 = r.length := by omega
            have h2 : r.length < (str (cutZ v.digs)).size := by omega
            have e2 : (str (cutZ v.digs))[r.length]'h2 = a := last_of hr h2
            simp only [e1, e2]
          obtain ⟨s, hs⟩ : ∃ s, str (cutZ v.digs) = s := ⟨_, rfl⟩
          rw [hs] at hz hx ⊢
          have HS := Lib.hid hs
          have hcl := hcz
          rw [hr] at hcl
          simp only [List.length_append, List.length_cons, List.length_nil] at hcl
          have hz3 : s.size ≤ r.length + 1 := by omega
          have hz4 : r.length + 1 ≤ s.size := by omega
          clear hs hr hsz0 hs0 hzz hm0 hz
          go_wp2_with fail
          go_ret2
          exact ⟨tup_si HS.out.symm hKe.out, hb⟩
theorem empty_str {l : List UInt8} (h : l = []) : (str l).toList.isEmpty = true := by subst h; rw [ByteArray.toList_eq]; rfl
theorem full_str {l : List UInt8} (h : l ≠ []) : (str l).toList.isEmpty = false := by
  rw [ByteArray.toList_eq]
  cases l with
  | nil => exact absurd rfl h
  | cons a l => rfl
set_option maxHeartbeats 4000000 in
theorem specSize (a b : V) (A B : Option Addr) (ca cb : Nat) (w : World) (hfa : a.fits) (hfb : b.fits) (hea : -100 ≤ a.e ∧ a.e ≤ 100) (heb : -100 ≤ b.e ∧ b.e ≤ 100) (hz : (a.n ≠ 0 ∧ b.n ≠ 0) ∨ (a.n = 0 ∧ b.n = 0)) :
    Calls Tryz.prog 99 #[a.agg A ca, b.agg B cb] w fun e w' => e = .returned (.int .i64 (if a.n = 0 then 0 else sizeR a b)) ∧ Below w.heap.size w w' := by
  obtain ⟨rr, hrr⟩ : ∃ rr, (if a.n = 0 then 0 else sizeR a b) = rr := ⟨_, rfl⟩
  rw [hrr]
  have HPA := Lib.hid (fun W => specParts a A ca W hfa hea)
  have HPB := Lib.hid (fun W => specParts b B cb W hfb heb)
  have hna := (fits_nC hfa).1
  have hnb := (fits_nC hfb).1
  have hda : a.digs.length ≤ 19 := dec_len _ (by omega)
  have hdb : b.digs.length ≤ 19 := dec_len _ (by omega)
  have hca := cutZ_len a.digs
  have hcb := cutZ_len b.digs
  have hma := a.cut_mag
  have hmb := b.cut_mag
  have hsa : (str (cutZ a.digs)).size = (cutZ a.digs).length := strlen _
  have hsb : (str (cutZ b.digs)).size = (cutZ b.digs).length := strlen _
  have hse : sizeR a b = if lessI a.mag b.mag = 0 then lessT (str (cutZ a.digs)) (str (cutZ b.digs)) else lessI a.mag b.mag := rfl
  rw [← hma, ← hmb, ← hsa, ← hsb] at hse
  have hEa : -100 ≤ a.cutE ∧ a.cutE ≤ 200 := by unfold V.cutE; omega
  have hEb : -100 ≤ b.cutE ∧ b.cutE ≤ 200 := by unfold V.cutE; omega
  have hia : (str (cutZ a.digs)).toList.isEmpty = decide (a.n = 0) := by
    by_cases h : a.n = 0
    · rw [decide_eq_true h]
      exact empty_str (by unfold V.digs; rw [h]; decide +kernel)
    · rw [decide_eq_false h]
      exact full_str (cutZ_dec (by omega))
  have hib : (str (cutZ b.digs)).toList.isEmpty = decide (b.n = 0) := by
    by_cases h : b.n = 0
    · rw [decide_eq_true h]
      exact empty_str (by unfold V.digs; rw [h]; decide +kernel)
    · rw [decide_eq_false h]
      exact full_str (cutZ_dec (by omega))
  have hsz0 : a.n = 0 → b.n = 0 → (str (cutZ a.digs)).size = (str (cutZ b.digs)).size := by
    intro h1 h2
    unfold V.digs
    rw [h1, h2]
  obtain ⟨x, hx⟩ : ∃ x, str (cutZ a.digs) = x := ⟨_, rfl⟩
  obtain ⟨y, hy⟩ : ∃ y, str (cutZ b.digs) = y := ⟨_, rfl⟩
  rw [hx] at hse hia hsa hsz0
  rw [hy] at hse hib hsb hsz0
  rw [hx] at HPA
  rw [hy] at HPB
  have hx20 : x.size ≤ 19 := by omega
  have hy20 : y.size ≤ 19 := by omega
  have HSE := Lib.hid hse
  obtain ⟨ea, hea'⟩ : ∃ ea, a.cutE = ea := ⟨_, rfl⟩
  obtain ⟨eb, heb'⟩ : ∃ eb, b.cutE = eb := ⟨_, rfl⟩
  rw [hea'] at HSE HPA hEa
  rw [heb'] at HSE HPB hEb
  have hsz := hsz0
  clear hse hma hmb hca hcb hda hdb hsa hsb hx hy hea' heb' hna hnb hea heb hsz0
  unfold V.agg at HPA HPB ⊢
  go_enter Tryz.func99, Tryz.ntmps99
  go_wp2_with fail
  obtain ⟨w2, hw2, Ba, Bb, b1, z2⟩ := two_new w 43 43 #[.int .i64 a.k, .int .i64 a.n, .int .i64 a.e, .string a.s, .slice A a.kids.length ca] #[.int .i64 b.k, .int .i64 b.n, .int .i64 b.e, .string b.s, .slice B b.kids.length cb]
  rw [← hw2]
  clear hw2
  obtain ⟨p0, p1, p2, p3, p4⟩ := Ba.five
  obtain ⟨q0, q1, q2, q3, q4⟩ := Bb.five
  go_wp2_with fail
  refine (HPA.out w2).mono ?_
  rintro e w3 ⟨rfl, hb3⟩
  have Bb3 := Bb.below hb3 Bb.lt
  have b3 := b1.trans (hb3.mono b1.size)
  clear p0 p1 p2 p3 p4 q0 q1 q2 q3 q4 hb3 Ba Bb b1
  obtain ⟨q0, q1, q2, q3, q4⟩ := Bb3.five
  go_wp2_with fail
  refine (HPB.out w3).mono ?_
  rintro e w4 ⟨rfl, hb4⟩
  have b4 := b3.trans (hb4.mono b3.size)
  clear q0 q1 q2 q3 q4 hb4 Bb3 b3
  rcases hz with ⟨ha, hb⟩ | ⟨ha, hb⟩
  · rw [decide_eq_false ha] at hia
    rw [decide_eq_false hb] at hib
    rw [if_neg ha] at hrr
    rw [hrr] at HSE
    clear ha hb hsz hrr
    go_wp2_with fail
    refine (specLess _ _ _).mono ?_
    rintro e w5 ⟨rfl, rfl⟩
    by_cases h0 : lessI ((x.size : Int) + ea) ((y.size : Int) + eb) = 0
    · have HR := Lib.hid (HSE.out.trans (if_pos h0))
      rw [h0]
      clear h0
      go_wp2_with fail
      refine (specTexts _ _ _).mono ?_
      rintro e w6 ⟨rfl, rfl⟩
      go_wp2_with fail
      go_ret
      exact ⟨ret_num HR.out.symm, b4⟩
    · have HR := Lib.hid (HSE.out.trans (if_neg h0))
      have hne : (lessI ((x.size : Int) + ea) ((y.size : Int) + eb) != 0) = true := by simpa using h0
      obtain ⟨r, hr⟩ : ∃ r, lessI ((x.size : Int) + ea) ((y.size : Int) + eb) = r := ⟨_, rfl⟩
      rw [hr] at HR hne ⊢
      clear h0 hr
      go_wp2_with fail
      go_ret
      exact ⟨ret_num HR.out.symm, b4⟩
  · rw [decide_eq_true ha] at hia
    have hxy := hsz ha hb
    rw [if_pos ha] at hrr
    have HRR := Lib.hid hrr
    clear ha hb hsz hib hrr
    go_wp2_with fail
    refine (specLess _ _ _).mono ?_
    rintro e w5 ⟨rfl, rfl⟩
    go_wp2_with fail
    go_ret
    exact ⟨ret_num (by first | (rw [lessI_eq, HRR.out]) | (rw [hxy, lessI_eq, HRR.out])), b4⟩
end Go.Proofs.YtbfddabljkoapaaGreatDoor

/-
  The library's order of two numbers and of two texts, and its first that is not 0.
-/
namespace Go.Proofs.YtbfddabljkoapaaGreatDoor
open Go.RowKit
set_option linter.unusedVariables false
set_option maxRecDepth 100000
set_option linter.unusedSimpArgs false

theorem isNaN_int (a : Int) (w : World) : Calls Tryz.prog 135 #[.int .i64 a] w fun e w' => e = .returned (.bool false) ∧ w' = w := by
  go_enter Tryz.func135, Tryz.ntmps135
  go_wp2_with fail
  go_ret
  exact ⟨ret_bool (by simp), rfl⟩
theorem cmpInt (a b : Int) (w : World) : Calls Tryz.prog 94 #[.int .i64 a, .int .i64 b] w fun e w' => e = .returned (.int .i64 (lessI a b)) ∧ w' = w := by
  by_cases h1 : a < b
  · have H := Lib.hid (lessI_lt h1)
    go_enter Tryz.func94, Tryz.ntmps94
    go_wp2_with fail
    refine (isNaN_int a w).mono ?_
    rintro e w1 ⟨rfl, rfl⟩
    go_wp2_with fail
    refine (isNaN_int b w1).mono ?_
    rintro e w1 ⟨rfl, rfl⟩
    go_wp2_with fail
    go_ret
    exact ⟨ret_num (by rw [H.out]), rfl⟩
  · by_cases h2 : b < a
    · have H := Lib.hid (lessI_gt h2)
      go_enter Tryz.func94, Tryz.ntmps94
      go_wp2_with fail
      refine (isNaN_int a w).mono ?_
      rintro e w1 ⟨rfl, rfl⟩
      go_wp2_with fail
      refine (isNaN_int b w1).mono ?_
      rintro e w1 ⟨rfl, rfl⟩
      go_wp2_with fail
      go_ret
      exact ⟨ret_num (by rw [H.out]), rfl⟩
    · obtain rfl : a = b := by omega
      have H := Lib.hid (lessI_eq a)
      go_enter Tryz.func94, Tryz.ntmps94
      go_wp2_with fail
      refine (isNaN_int a w).mono ?_
      rintro e w1 ⟨rfl, rfl⟩
      go_wp2_with fail
      refine (isNaN_int a w1).mono ?_
      rintro e w1 ⟨rfl, rfl⟩
      go_wp2_with fail
      go_ret
      exact ⟨ret_num (by rw [H.out]), rfl⟩

theorem isNaN_text (a : ByteArray) (w : World) : Calls Tryz.prog 170 #[.string a] w fun e w' => e = .returned (.bool false) ∧ w' = w := by
  go_enter Tryz.func170, Tryz.ntmps170
  go_wp2_with fail
  go_ret
  exact ⟨ret_bool (by simp), rfl⟩
theorem cmpText (a b : ByteArray) (w : World) : Calls Tryz.prog 137 #[.string a, .string b] w fun e w' => e = .returned (.int .i64 (lessT a b)) ∧ w' = w := by
  by_cases h1 : Op.bytesLess a.toList b.toList = true
  · have H := Lib.hid (show lessT a b = -1 by unfold lessT; rw [if_pos h1])
    go_enter Tryz.func137, Tryz.ntmps137
    go_wp2_with fail
    refine (isNaN_text a w).mono ?_
    rintro e w1 ⟨rfl, rfl⟩
    go_wp2_with fail
    refine (isNaN_text b w1).mono ?_
    rintro e w1 ⟨rfl, rfl⟩
    go_wp2_with fail
    go_ret
    exact ⟨ret_num (by rw [H.out]), rfl⟩
  · have h1' : Op.bytesLess a.toList b.toList = false := by simpa using h1
    by_cases h2 : (a.toList == b.toList) = true
    · have H := Lib.hid (show lessT a b = 0 by unfold lessT; rw [if_neg h1, if_pos h2])
      clear h1
      go_enter Tryz.func137, Tryz.ntmps137
      go_wp2_with fail
      refine (isNaN_text a w).mono ?_
      rintro e w1 ⟨rfl, rfl⟩
      go_wp2_with fail
      refine (isNaN_text b w1).mono ?_
      rintro e w1 ⟨rfl, rfl⟩
      go_wp2_with fail
      go_ret
      exact ⟨ret_num (by rw [H.out]), rfl⟩
    · have H := Lib.hid (show lessT a b = 1 by unfold lessT; rw [if_neg h1, if_neg h2])
      have h2' : (a.toList == b.toList) = false := by simpa using h2
      clear h1 h2
      go_enter Tryz.func137, Tryz.ntmps137
      go_wp2_with fail
      refine (isNaN_text a w).mono ?_
      rintro e w1 ⟨rfl, rfl⟩
      go_wp2_with fail
      refine (isNaN_text b w1).mono ?_
      rintro e w1 ⟨rfl, rfl⟩
      go_wp2_with fail
      go_ret
      exact ⟨ret_num (by rw [H.out]), rfl⟩

set_option maxHeartbeats 1000000 in
/-- cmp.Or: the first that is not 0 of n numbers that lie in block g. -/
theorem cmpOr (f : Nat → Int) (n c g : Nat) (w : World) (hn : n ≤ 1000) (hg : ∀ i, i < n → w.cell? ⟨g, i, none⟩ = some (.int .i64 (f i))) :
    Calls Tryz.prog 136 #[.slice (some ⟨g, 0, none⟩) n c] w fun e w' => e = .returned (.int .i64 (orN f n)) ∧ w' = w := by
  have HG := Lib.hid hg
  have HF := Lib.hid (orN_first f n)
  have HZ := Lib.hid (orN_zero f n)
  clear hg
  go_enter Tryz.func136, Tryz.ntmps136
  go_wp2_with fail
  go_loopw [8] (fun i wr => ∃ j : Nat, j ≤ n ∧ i = .int .i64 j ∧ wr = w ∧ ∀ k, k < j → f k = 0) (fun i _ => n - (intOf i).toNat)
  case atStart => exact ⟨0, Nat.zero_le _, rfl, rfl, fun k hk => by omega⟩
  case round =>
    obtain ⟨j, hj, rfl, rfl, hz⟩ := hrel
    have HH := Lib.hid hz
    clear hz
    by_cases hlt : j < n
    · have c0 := HG.out j hlt
      by_cases h0 : f j = 0
      · have h0' := h0
        have H0 := Lib.hid h0'
        clear h0'
        rw [h0] at c0
        clear h0
        go_wp2_with fail
        go_roundw
        case rel => exact ⟨j + 1, by omega, by go_num, by simp, fun k hk => by
          by_cases hk2 : k = j
          · subst hk2; exact H0.out
          · exact HH.out k (by omega)⟩
        case measure => simp [intOf]; omega
      · go_wp2_with fail
        go_ret
        exact ⟨ret_num (by rw [HF.out j HH.out hlt h0]), rfl⟩
    · obtain rfl : j = n := by omega
      go_wp2_with fail
      go_ret
      exact ⟨ret_num (by rw [HZ.out HH.out]), rfl⟩
end Go.Proofs.YtbfddabljkoapaaGreatDoor

/-
  CompareNum of the program.
-/
namespace Go.Proofs.YtbfddabljkoapaaGreatDoor
open Go.RowKit
set_option linter.unusedVariables false
set_option linter.unusedSimpArgs false
set_option maxRecDepth 100000

/-- The two orders of two sizes. -/
def szAt (a b : V) : Nat → Int
  | 0 => lessI a.mag b.mag
  | _ => lessT (str (cutZ a.digs)) (str (cutZ b.digs))
theorem szAt_or (a b : V) : orN (szAt a b) 2 = sizeR a b := by
  unfold sizeR
  show (if orN (szAt a b) 1 = 0 then szAt a b 1 else orN (szAt a b) 1) = _
  have h1 : orN (szAt a b) 1 = lessI a.mag b.mag := by show (if (0 : Int) = 0 then szAt a b 0 else 0) = _; rw [if_pos rfl]; rfl
  rw [h1]
  rfl
theorem sz_cells (w : World) (t : TypeId) (a b : V) (x y : Int) (hx : x = szAt a b 0) (hy : y = szAt a b 1) : ∀ i, i < 2 → (w.alloc (.cells #[.int .i64 x, .int .i64 y] t)).cell? ⟨w.heap.size, i, none⟩ = some (.int .i64 (szAt a b i)) := by
  intro i hi
  have h := cells_new w #[.int .i64 x, .int .i64 y] t i
  rw [Addr.add_lit, Nat.zero_add] at h
  rcases (show i = 0 ∨ i = 1 by omega) with rfl | rfl
  · exact h _ (by simp [hx])
  · exact h _ (by simp [hy])
set_option maxHeartbeats 8000000 in
theorem implSizes (a b : V) (A B : Option Addr) (ca cb : Nat) (w : World) (hfa : a.fits) (hfb : b.fits) (hea : -100 ≤ a.e ∧ a.e ≤ 100) (heb : -100 ≤ b.e ∧ b.e ≤ 100) (hP : Pow10 w) :
    Calls Tryz.prog 95 #[a.agg A ca, b.agg B cb] w fun e w' => e = .returned (.int .i64 (sizeR a b)) ∧ Below w.heap.size w w' := by
  have hna := (fits_nC hfa).1
  have hnb := (fits_nC hfb).1
  have HDA := Lib.hid (fun W h => implDigits a.n W hna h)
  have HDB := Lib.hid (fun W h => implDigits b.n W hnb h)
  have hda : (str a.digs).size ≤ 19 := by rw [strlen]; exact dec_len _ (by omega)
  have hdb : (str b.digs).size ≤ 19 := by rw [strlen]; exact dec_len _ (by omega)
  have hma : a.mag = (str a.digs).size + a.e := by rw [strlen]; rfl
  have hmb : b.mag = (str b.digs).size + b.e := by rw [strlen]; rfl
  have tA := fun W => Tryz.strings_TrimRight_one (str a.digs) 48 (by decide) W (by omega)
  have tB := fun W => Tryz.strings_TrimRight_one (str b.digs) 48 (by decide) W (by omega)
  rw [show ((⟨(Lib.trimRightB (str a.digs).data.toList 48).toArray⟩ : ByteArray) = str (cutZ a.digs)) by simp [str, cutZ]] at tA
  rw [show ((⟨(Lib.trimRightB (str b.digs).data.toList 48).toArray⟩ : ByteArray) = str (cutZ b.digs)) by simp [str, cutZ]] at tB
  have h0 : lessI (((str a.digs).size : Int) + a.e) (((str b.digs).size : Int) + b.e) = szAt a b 0 := by rw [← hma, ← hmb]; rfl
  have h1 : lessT (str (cutZ a.digs)) (str (cutZ b.digs)) = szAt a b 1 := rfl
  rw [show Lib.decDigits a.n.natAbs = a.digs from rfl] at HDA
  rw [show Lib.decDigits b.n.natAbs = b.digs from rfl] at HDB
  obtain ⟨x, hx⟩ : ∃ x, str a.digs = x := ⟨_, rfl⟩
  obtain ⟨y, hy⟩ : ∃ y, str b.digs = y := ⟨_, rfl⟩
  obtain ⟨x', hx'⟩ : ∃ x, str (cutZ a.digs) = x := ⟨_, rfl⟩
  obtain ⟨y', hy'⟩ : ∃ y, str (cutZ b.digs) = y := ⟨_, rfl⟩
  rw [hx] at HDA hda h0 tA
  rw [hy] at HDB hdb h0 tB
  rw [hx'] at tA h1
  rw [hy'] at tB h1
  have HTA := Lib.hid tA
  have HTB := Lib.hid tB
  have HP := Lib.hid hP
  have H0 := Lib.hid h0
  have H1 := Lib.hid h1
  clear hP hma hmb hx hy hx' hy' tA tB h0 h1 hna hnb hfa hfb
  unfold V.agg
  go_enter Tryz.func95, Tryz.ntmps95
  go_wp2_with fail
  obtain ⟨w2, hw2, Ba, Bb, b1, z2⟩ := two_new w 43 43 #[.int .i64 a.k, .int .i64 a.n, .int .i64 a.e, .string a.s, .slice A a.kids.length ca] #[.int .i64 b.k, .int .i64 b.n, .int .i64 b.e, .string b.s, .slice B b.kids.length cb]
  rw [← hw2]
  clear hw2
  obtain ⟨p0, p1, p2, p3, p4⟩ := Ba.five
  obtain ⟨q0, q1, q2, q3, q4⟩ := Bb.five
  go_wp2_with fail
  refine (HDA.out w2 (HP.out.below b1 (Nat.le_refl _))).mono ?_
  rintro e w3 ⟨rfl, hb3⟩
  have Ba3 := Ba.below hb3 Ba.lt
  have Bb3 := Bb.below hb3 Bb.lt
  have b3 := b1.trans (hb3.mono b1.size)
  clear p0 p1 p2 p3 p4 q0 q1 q2 q3 q4 hb3 Ba Bb b1
  obtain ⟨q0, q1, q2, q3, q4⟩ := Bb3.five
  go_wp2_with fail
  refine (HDB.out w3 (HP.out.below b3 (Nat.le_refl _))).mono ?_
  rintro e w4 ⟨rfl, hb4⟩
  have Ba4 := Ba3.below hb4 Ba3.lt
  have Bb4 := Bb3.below hb4 Bb3.lt
  have b4 := b3.trans (hb4.mono b3.size)
  clear q0 q1 q2 q3 q4 hb4 Ba3 Bb3 b3
  obtain ⟨p0, p1, p2, p3, p4⟩ := Ba4.five
  obtain ⟨q0, q1, q2, q3, q4⟩ := Bb4.five
  go_wp2_with fail
  refine (cmpInt _ _ _).mono ?_
  rintro e w5 ⟨rfl, rfl⟩
  rw [H0.out]
  clear p0 p1 p2 p3 p4 q0 q1 q2 q3 q4
  go_wp2_with fail
  refine (HTA.out _).mono ?_
  rintro e w6 ⟨rfl, rfl⟩
  go_wp2_with fail
  refine (HTB.out _).mono ?_
  rintro e w7 ⟨rfl, rfl⟩
  go_wp2_with fail
  refine (cmpText _ _ _).mono ?_
  rintro e w8 ⟨rfl, rfl⟩
  rw [H1.out]
  go_wp2_with fail
  refine (cmpOr (szAt a b) 2 2 w8.heap.size _ (by omega) (sz_cells _ _ a b _ _ rfl rfl)).mono ?_
  rintro e w9 ⟨rfl, rfl⟩
  rw [szAt_or]
  go_wp2_with fail
  go_ret
  exact ⟨rfl, b4.alloc b4.size _⟩

theorem numOk_e2 {v : V} (h : numOk v) : -100 ≤ v.e ∧ v.e ≤ 100 := by have := numOk_n h; omega
set_option maxHeartbeats 8000000 in
theorem implCompareNum (a b : V) (A B : Option Addr) (ca cb : Nat) (w : World) (hfa : a.fits) (hfb : b.fits) (hwa : a.weight ≤ 1048576) (hwb : b.weight ≤ 1048576) (hP : Pow10 w) (hT : Tabs w) (hat : Vs.at_ w 0 w.heap.size a.kids A) (hbt : Vs.at_ w 0 w.heap.size b.kids B) :
    Calls Tryz.prog 44 #[a.agg A ca, b.agg B cb] w fun e w' => e = .returned (.int .i64 (cnR a b)) ∧ Below w.heap.size w w' := by
  have HA := Lib.hid hat
  have HB := Lib.hid hbt
  have HFa := Lib.hid hfa
  have HFb := Lib.hid hfb
  have HP := Lib.hid hP
  have HT := Lib.hid hT
  have cA := fun W hT h => implIs a A ca W hwa hT h
  have cB := fun W hT h => implIs b B cb W hwb hT h
  have HNO := Lib.hid (cnR_no (a := a) (b := b))
  unfold V.agg at cA cB
  have HCA := Lib.hid cA
  have HCB := Lib.hid cB
  clear hat hbt hfa hfb cA cB hP hT
  unfold V.agg
  go_enter Tryz.func44, Tryz.ntmps44
  go_wp2_with fail
  obtain ⟨w2, hw2, Ba, Bb, b1, z2⟩ := two_new w 43 43 #[.int .i64 a.k, .int .i64 a.n, .int .i64 a.e, .string a.s, .slice A a.kids.length ca] #[.int .i64 b.k, .int .i64 b.n, .int .i64 b.e, .string b.s, .slice B b.kids.length cb]
  rw [← hw2]
  clear hw2
  obtain ⟨p0, p1, p2, p3, p4⟩ := Ba.five
  obtain ⟨q0, q1, q2, q3, q4⟩ := Bb.five
  go_wp2_with fail
  refine (HCA.out w2 (HT.out.below b1) (Vs.at_more (Nat.le_refl _) b1.size _ _ (Vs.at_below HA.out b1 (Nat.le_refl _)))).mono ?_
  rintro e w3 ⟨rfl, hb3⟩
  have Ba3 := Ba.below hb3 Ba.lt
  have Bb3 := Bb.below hb3 Bb.lt
  have b3 := b1.trans (hb3.mono b1.size)
  clear p0 p1 p2 p3 p4 q0 q1 q2 q3 q4 hb3 Ba Bb b1
  obtain ⟨p0, p1, p2, p3, p4⟩ := Ba3.five
  obtain ⟨q0, q1, q2, q3, q4⟩ := Bb3.five
  by_cases hna : numOk a
  · rw [show decide (numOk a) = true from decide_eq_true hna]
    have HNA := Lib.hid hna
    clear hna
    go_wp2_with fail
    refine (HCB.out w3 (HT.out.below b3) (Vs.at_more (Nat.le_refl _) b3.size _ _ (Vs.at_below HB.out b3 (Nat.le_refl _)))).mono ?_
    rintro e w4 ⟨rfl, hb4⟩
    have Ba4 := Ba3.below hb4 Ba3.lt
    have Bb4 := Bb3.below hb4 Bb3.lt
    have b4 := b3.trans (hb4.mono b3.size)
    clear p0 p1 p2 p3 p4 q0 q1 q2 q3 q4 hb4 Ba3 Bb3 b3
    obtain ⟨p0, p1, p2, p3, p4⟩ := Ba4.five
    obtain ⟨q0, q1, q2, q3, q4⟩ := Bb4.five
    by_cases hnb : numOk b
    · rw [show decide (numOk b) = true from decide_eq_true hnb]
      have HN : Hid (numOk a ∧ numOk b) := Lib.hid ⟨HNA.out, hnb⟩
      have HEa := Lib.hid (numOk_e2 HNA.out)
      have HEb := Lib.hid (numOk_e2 hnb)
      clear hnb
      go_wp2_with fail
      go_quiet ((go_at_call 94; exact Calls.quiet_of_same (cmpInt _ _ _)))
      have HB5 : Hid (Below w.heap.size w (w4.drewN nq)) := Lib.hid (below_drewN b4 nq)
      have HVa : Hid (Blk (w4.drewN nq) w.heap.size 43 #[.int .i64 a.k, .int .i64 a.n, .int .i64 a.e, .string a.s, .slice A a.kids.length ca]) := Lib.hid Ba4
      have HVb : Hid (Blk (w4.drewN nq) (w.heap.size + 1) 43 #[.int .i64 b.k, .int .i64 b.n, .int .i64 b.e, .string b.s, .slice B b.kids.length cb]) := Lib.hid Bb4
      obtain ⟨w5, hw5⟩ : ∃ w5, w4.drewN nq = w5 := ⟨_, rfl⟩
      rw [hw5] at HB5 HVa HVb ⊢
      clear hw5 p0 p1 p2 p3 p4 q0 q1 q2 q3 q4 Ba4 Bb4 b4
      rw [show lessI a.n 0 = sgR a from rfl, show lessI b.n 0 = sgR b from rfl]
      obtain ⟨p0, p1, p2, p3, p4⟩ := HVa.out.five
      obtain ⟨q0, q1, q2, q3, q4⟩ := HVb.out.five
      have hzz := HB5.out.size
      by_cases hs : sgR a ≠ sgR b ∨ sgR a = 0
      · have HR := Lib.hid (cnR_sign HN.out hs)
        by_cases h1 : sgR a = sgR b
        · have q : (sgR a != sgR b) = false := by rw [h1]; simp
          have q2 : (sgR a == 0) = true := by rcases hs with h | h; exact absurd h1 h; rw [h]; rfl
          clear hs h1
          go_wp2_with fail
          refine (cmpInt _ _ _).mono ?_
          rintro e w6 ⟨rfl, rfl⟩
          go_wp2_with fail
          go_ret
          exact ⟨ret_num HR.out.symm, HB5.out⟩
        · have q : (sgR a != sgR b) = true := by simpa using h1
          clear hs h1
          go_wp2_with fail
          refine (cmpInt _ _ _).mono ?_
          rintro e w6 ⟨rfl, rfl⟩
          go_wp2_with fail
          go_ret
          exact ⟨ret_num HR.out.symm, HB5.out⟩
      · have hsr := sizeR_range a b
        have cS := fun W h => implSizes a b A B ca cb W HFa.out HFb.out HEa.out HEb.out h
        unfold V.agg at cS
        have q : (sgR a != sgR b) = false := by
          have : sgR a = sgR b := Classical.byContradiction fun h => hs (.inl h)
          rw [this]; simp
        have q2 : (sgR a == 0) = false := by
          have : sgR a ≠ 0 := fun h => hs (.inr h)
          simpa using this
        rcases (show (sgR a = 1 ∧ sgR b = 1) ∨ (sgR a = -1 ∧ sgR b = -1) by
          have h1 : sgR a = sgR b := Classical.byContradiction fun h => hs (.inl h)
          have h2 : sgR a ≠ 0 := fun h => hs (.inr h)
          rcases sgR_cases a with h | h | h <;> omega) with ⟨ha, hb⟩ | ⟨ha, hb⟩
        · have HR := Lib.hid (cnR_pos HN.out ha hb)
          obtain ⟨r, hr⟩ : ∃ r, sizeR a b = r := ⟨_, rfl⟩
          rw [hr] at HR hsr cS
          have HCS := Lib.hid cS
          rw [ha, hb]
          clear hs hr cS q q2 ha hb
          go_wp2_with fail
          refine (HCS.out w5 (HP.out.below HB5.out (Nat.le_refl _))).mono ?_
          rintro e w6 ⟨rfl, hb6⟩
          have hw1 : IntKind.i64.wrap r = r := by rw [IntKind.wrap_i64]; omega
          go_wp2_with fail
          go_ret
          exact ⟨ret_num HR.out.symm, HB5.out.trans (hb6.mono hzz)⟩
        · have HR := Lib.hid ((cnR_neg HN.out ha hb).trans (sizeR_swap a b))
          obtain ⟨r, hr⟩ : ∃ r, sizeR a b = r := ⟨_, rfl⟩
          rw [hr] at HR hsr cS
          have HCS := Lib.hid cS
          rw [ha, hb]
          clear hs hr cS q q2 ha hb
          go_wp2_with fail
          refine (HCS.out w5 (HP.out.below HB5.out (Nat.le_refl _))).mono ?_
          rintro e w6 ⟨rfl, hb6⟩
          have hw1 : IntKind.i64.wrap (-r) = -r := by rw [IntKind.wrap_i64]; omega
          go_wp2_with fail
          go_ret
          exact ⟨ret_num HR.out.symm, HB5.out.trans (hb6.mono hzz)⟩
    · rw [show decide (numOk b) = false from decide_eq_false hnb]
      have HR := Lib.hid (HNO.out (fun h => hnb h.2))
      clear hnb
      go_wp2_with fail
      go_ret
      exact ⟨ret_num HR.out.symm, b4⟩
  · rw [show decide (numOk a) = false from decide_eq_false hna]
    have HR := Lib.hid (HNO.out (fun h => hna h.1))
    clear hna
    go_wp2_with fail
    go_ret
    exact ⟨ret_num HR.out.symm, b3⟩
end Go.Proofs.YtbfddabljkoapaaGreatDoor

/-
  CompareNum of the reference.
-/
namespace Go.Proofs.YtbfddabljkoapaaGreatDoor
open Go.RowKit
set_option linter.unusedVariables false
set_option linter.unusedSimpArgs false
set_option maxRecDepth 100000

theorem numOk_e {v : V} (h : numOk v) : -100 ≤ v.e ∧ v.e ≤ 100 := by have := numOk_n h; omega

set_option maxHeartbeats 8000000 in
theorem specCompareNum (a b : V) (A B : Option Addr) (ca cb : Nat) (w : World) (hfa : a.fits) (hfb : b.fits) (hwa : a.weight ≤ 1048576) (hwb : b.weight ≤ 1048576) (hat : Vs.at_ w 0 w.heap.size a.kids A) (hbt : Vs.at_ w 0 w.heap.size b.kids B) :
    Calls Tryz.prog 48 #[a.agg A ca, b.agg B cb] w fun e w' => e = .returned (.int .i64 (cnR a b)) ∧ Below w.heap.size w w' := by
  have HA := Lib.hid hat
  have HB := Lib.hid hbt
  have HFa := Lib.hid hfa
  have HFb := Lib.hid hfb
  have cA := fun W h => specIs a A ca W hwa h
  have cB := fun W h => specIs b B cb W hwb h
  have sA := fun W => specSgn a A ca W
  have sB := fun W => specSgn b B cb W
  have HNO := Lib.hid (cnR_no (a := a) (b := b))
  unfold V.agg at cA cB sA sB
  have HCA := Lib.hid cA
  have HCB := Lib.hid cB
  have HSA := Lib.hid sA
  have HSB := Lib.hid sB
  clear hat hbt hfa hfb cA cB sA sB
  unfold V.agg
  go_enter Tryz.func48, Tryz.ntmps48
  go_wp2_with fail
  obtain ⟨w2, hw2, Ba, Bb, b1, z2⟩ := two_new w 43 43 #[.int .i64 a.k, .int .i64 a.n, .int .i64 a.e, .string a.s, .slice A a.kids.length ca] #[.int .i64 b.k, .int .i64 b.n, .int .i64 b.e, .string b.s, .slice B b.kids.length cb]
  rw [← hw2]
  clear hw2
  obtain ⟨p0, p1, p2, p3, p4⟩ := Ba.five
  obtain ⟨q0, q1, q2, q3, q4⟩ := Bb.five
  go_wp2_with fail
  refine (HCA.out w2 (Vs.at_more (Nat.le_refl _) b1.size _ _ (Vs.at_below HA.out b1 (Nat.le_refl _)))).mono ?_
  rintro e w3 ⟨rfl, hb3⟩
  have Ba3 := Ba.below hb3 Ba.lt
  have Bb3 := Bb.below hb3 Bb.lt
  have b3 := b1.trans (hb3.mono b1.size)
  clear p0 p1 p2 p3 p4 q0 q1 q2 q3 q4 hb3 Ba Bb b1
  obtain ⟨p0, p1, p2, p3, p4⟩ := Ba3.five
  obtain ⟨q0, q1, q2, q3, q4⟩ := Bb3.five
  by_cases hna : numOk a
  · rw [show decide (numOk a) = true from decide_eq_true hna]
    have HNA := Lib.hid hna
    clear hna
    go_wp2_with fail
    refine (HCB.out w3 (Vs.at_more (Nat.le_refl _) b3.size _ _ (Vs.at_below HB.out b3 (Nat.le_refl _)))).mono ?_
    rintro e w4 ⟨rfl, hb4⟩
    have Ba4 := Ba3.below hb4 Ba3.lt
    have Bb4 := Bb3.below hb4 Bb3.lt
    have b4 := b3.trans (hb4.mono b3.size)
    clear p0 p1 p2 p3 p4 q0 q1 q2 q3 q4 hb4 Ba3 Bb3 b3
    obtain ⟨p0, p1, p2, p3, p4⟩ := Ba4.five
    obtain ⟨q0, q1, q2, q3, q4⟩ := Bb4.five
    by_cases hnb : numOk b
    · rw [show decide (numOk b) = true from decide_eq_true hnb]
      have HN : Hid (numOk a ∧ numOk b) := Lib.hid ⟨HNA.out, hnb⟩
      have HEa := Lib.hid (numOk_e HNA.out)
      have HEb := Lib.hid (numOk_e hnb)
      clear hnb
      go_wp2_with fail
      have KE : Hid (∀ w' : World, Below w4.heap.size w4 w' → w'.cell? ⟨w.heap.size, 0, none⟩ = some (.int .i64 a.k) ∧ w'.cell? ⟨w.heap.size, 1, none⟩ = some (.int .i64 a.n) ∧ w'.cell? ⟨w.heap.size, 2, none⟩ = some (.int .i64 a.e) ∧ w'.cell? ⟨w.heap.size, 3, none⟩ = some (.string a.s) ∧ w'.cell? ⟨w.heap.size, 4, none⟩ = some (.slice A a.kids.length ca) ∧ w'.cell? ⟨w.heap.size + 1, 0, none⟩ = some (.int .i64 b.k) ∧ w'.cell? ⟨w.heap.size + 1, 1, none⟩ = some (.int .i64 b.n) ∧ w'.cell? ⟨w.heap.size + 1, 2, none⟩ = some (.int .i64 b.e) ∧ w'.cell? ⟨w.heap.size + 1, 3, none⟩ = some (.string b.s) ∧ w'.cell? ⟨w.heap.size + 1, 4, none⟩ = some (.slice B b.kids.length cb)) := Lib.hid (fun w' hb => by
        have X := (Ba4.below hb Ba4.lt).five
        have Y := (Bb4.below hb Bb4.lt).five
        exact ⟨X.1, X.2.1, X.2.2.1, X.2.2.2.1, X.2.2.2.2, Y.1, Y.2.1, Y.2.2.1, Y.2.2.2.1, Y.2.2.2.2⟩)
      have hbr : Below w4.heap.size w4 w4 := Below.refl _ _
      go_region_held3 (fun w' => w'.cell? ⟨w.heap.size, 0, none⟩ = some (.int .i64 a.k) ∧ w'.cell? ⟨w.heap.size, 1, none⟩ = some (.int .i64 a.n) ∧ w'.cell? ⟨w.heap.size, 2, none⟩ = some (.int .i64 a.e) ∧ w'.cell? ⟨w.heap.size, 3, none⟩ = some (.string a.s) ∧ w'.cell? ⟨w.heap.size, 4, none⟩ = some (.slice A a.kids.length ca) ∧ w'.cell? ⟨w.heap.size + 1, 0, none⟩ = some (.int .i64 b.k) ∧ w'.cell? ⟨w.heap.size + 1, 1, none⟩ = some (.int .i64 b.n) ∧ w'.cell? ⟨w.heap.size + 1, 2, none⟩ = some (.int .i64 b.e) ∧ w'.cell? ⟨w.heap.size + 1, 3, none⟩ = some (.string b.s) ∧ w'.cell? ⟨w.heap.size + 1, 4, none⟩ = some (.slice B b.kids.length cb))
        (first | exact KE.out _ ((hbr.drew.trans hbA).trans (hbB.mono hbA.size)) | exact KE.out _ (hbr.drew.trans hbA) | exact KE.out _ hbr.drew | exact KE.out _ hbr)
        (first
        | (go_at_call_of 97 (a.k); refine (HSA.out _).mono ?_; rintro e wA ⟨rfl, hbA⟩)
        | (go_at_call_of 97 (b.k); refine (HSB.out _).mono ?_; rintro e wB ⟨rfl, hbB⟩)
        | (go_at_call 98; refine (specLess _ _ _).mono ?_; rintro e wC ⟨rfl, rfl⟩))
      clear KE hbr
      have Ba5 := (Ba4.drew.below hbA Ba4.drew.lt).below hbB (Ba4.drew.below hbA Ba4.drew.lt).lt
      have Bb5 := (Bb4.drew.below hbA Bb4.drew.lt).below hbB (Bb4.drew.below hbA Bb4.drew.lt).lt
      have b5 := (b4.drew.trans (hbA.mono b4.size)).trans (hbB.mono (Nat.le_trans b4.size hbA.size))
      clear hbA hbB Ba4 Bb4 b4 p0 p1 p2 p3 p4 q0 q1 q2 q3 q4
      obtain ⟨p0, p1, p2, p3, p4⟩ := Ba5.five
      obtain ⟨q0, q1, q2, q3, q4⟩ := Bb5.five
      by_cases hs : sgR a = sgR b
      · have hq : (sgR a != sgR b) = false := by rw [hs]; simp
        have HS := Lib.hid hs
        clear hs
        go_wp2_with fail
        refine (HSA.out wB).mono ?_
        rintro e w6 ⟨rfl, hb6⟩
        have Ba6 := Ba5.below hb6 Ba5.lt
        have Bb6 := Bb5.below hb6 Bb5.lt
        have b6 := b5.trans (hb6.mono b5.size)
        clear p0 p1 p2 p3 p4 q0 q1 q2 q3 q4 hb6 Ba5 Bb5 b5
        obtain ⟨p0, p1, p2, p3, p4⟩ := Ba6.five
        obtain ⟨q0, q1, q2, q3, q4⟩ := Bb6.five
        by_cases hneg : sgR a < 0
        · have hm : sgR a = -1 := by rcases sgR_cases a with h | h | h <;> omega
          have HR := Lib.hid (cnR_neg HN.out hm (HS.out ▸ hm))
          have hbn : ¬ b.n = 0 := by have := HS.out; rcases sgR_cases b with h | h | h <;> omega
          have HX := Lib.hid (show (if b.n = 0 then 0 else sizeR b a) = cnR a b by rw [if_neg hbn, HR.out])
          rw [hm]
          clear hneg hbn
          have HM := Lib.hid hm
          clear hm
          have cS := fun W => specSize b a B A cb ca W HFb.out HFa.out HEb.out HEa.out (by left; have h1 := HM.out; have h2 := HS.out; rcases sgR_cases a with h | h | h <;> rcases sgR_cases b with h' | h' | h' <;> omega)
          rw [HX.out] at cS
          unfold V.agg at cS
          have HCS := Lib.hid cS
          clear cS
          go_wp2_with fail
          refine (HCS.out w6).mono ?_
          rintro e w7 ⟨rfl, hb7⟩
          go_wp2_with fail
          go_ret
          exact ⟨rfl, b6.trans (hb7.mono b6.size)⟩
        · have HX := Lib.hid (show (if a.n = 0 then 0 else sizeR a b) = cnR a b by
            by_cases h0 : a.n = 0
            · have h1 : sgR a = 0 := by rcases sgR_cases a with h | h | h <;> omega
              rw [if_pos h0, cnR_sign HN.out (.inr h1), ← HS.out, h1]
              rfl
            · have h1 : sgR a = 1 := by rcases sgR_cases a with h | h | h <;> omega
              rw [if_neg h0, cnR_pos HN.out h1 (HS.out ▸ h1)])
          have hq2 : decide (sgR a < 0) = false := decide_eq_false hneg
          have HNG := Lib.hid hneg
          clear hneg
          have cS := fun W => specSize a b A B ca cb W HFa.out HFb.out HEa.out HEb.out (by have h1 := HNG.out; have h2 := HS.out; rcases sgR_cases a with h | h | h <;> rcases sgR_cases b with h' | h' | h' <;> omega)
          rw [HX.out] at cS
          unfold V.agg at cS
          have HCS := Lib.hid cS
          clear cS
          go_wp2_with fail
          refine (HCS.out w6).mono ?_
          rintro e w7 ⟨rfl, hb7⟩
          go_wp2_with fail
          go_ret
          exact ⟨rfl, b6.trans (hb7.mono b6.size)⟩
      · have hq : (sgR a != sgR b) = true := by simpa using hs
        have HR := Lib.hid (cnR_sign HN.out (.inl hs))
        clear hs
        go_wp2_with fail
        have Ba4 := Ba5
        have Bb4 := Bb5
        have b4 := b5
        clear Ba5 Bb5 b5
        have KE : Hid (∀ w' : World, Below wB.heap.size wB w' → w'.cell? ⟨w.heap.size, 0, none⟩ = some (.int .i64 a.k) ∧ w'.cell? ⟨w.heap.size, 1, none⟩ = some (.int .i64 a.n) ∧ w'.cell? ⟨w.heap.size, 2, none⟩ = some (.int .i64 a.e) ∧ w'.cell? ⟨w.heap.size, 3, none⟩ = some (.string a.s) ∧ w'.cell? ⟨w.heap.size, 4, none⟩ = some (.slice A a.kids.length ca) ∧ w'.cell? ⟨w.heap.size + 1, 0, none⟩ = some (.int .i64 b.k) ∧ w'.cell? ⟨w.heap.size + 1, 1, none⟩ = some (.int .i64 b.n) ∧ w'.cell? ⟨w.heap.size + 1, 2, none⟩ = some (.int .i64 b.e) ∧ w'.cell? ⟨w.heap.size + 1, 3, none⟩ = some (.string b.s) ∧ w'.cell? ⟨w.heap.size + 1, 4, none⟩ = some (.slice B b.kids.length cb)) := Lib.hid (fun w' hb => by
          have X := (Ba4.below hb Ba4.lt).five
          have Y := (Bb4.below hb Bb4.lt).five
          exact ⟨X.1, X.2.1, X.2.2.1, X.2.2.2.1, X.2.2.2.2, Y.1, Y.2.1, Y.2.2.1, Y.2.2.2.1, Y.2.2.2.2⟩)
        have hbr : Below wB.heap.size wB wB := Below.refl _ _
        go_region_held3 (fun w' => w'.cell? ⟨w.heap.size, 0, none⟩ = some (.int .i64 a.k) ∧ w'.cell? ⟨w.heap.size, 1, none⟩ = some (.int .i64 a.n) ∧ w'.cell? ⟨w.heap.size, 2, none⟩ = some (.int .i64 a.e) ∧ w'.cell? ⟨w.heap.size, 3, none⟩ = some (.string a.s) ∧ w'.cell? ⟨w.heap.size, 4, none⟩ = some (.slice A a.kids.length ca) ∧ w'.cell? ⟨w.heap.size + 1, 0, none⟩ = some (.int .i64 b.k) ∧ w'.cell? ⟨w.heap.size + 1, 1, none⟩ = some (.int .i64 b.n) ∧ w'.cell? ⟨w.heap.size + 1, 2, none⟩ = some (.int .i64 b.e) ∧ w'.cell? ⟨w.heap.size + 1, 3, none⟩ = some (.string b.s) ∧ w'.cell? ⟨w.heap.size + 1, 4, none⟩ = some (.slice B b.kids.length cb))
          (first | exact KE.out _ ((hbr.drew.trans hbD).trans (hbE.mono hbD.size)) | exact KE.out _ (hbr.drew.trans hbD) | exact KE.out _ hbr.drew | exact KE.out _ hbr)
          (first
          | (go_at_call_of 97 (a.k); refine (HSA.out _).mono ?_; rintro e wD ⟨rfl, hbD⟩)
          | (go_at_call_of 97 (b.k); refine (HSB.out _).mono ?_; rintro e wE ⟨rfl, hbE⟩)
          | (go_at_call 98; refine (specLess _ _ _).mono ?_; rintro e wC ⟨rfl, rfl⟩))
        clear KE hbr
        have Ba5 := (Ba4.drew.below hbD Ba4.drew.lt).below hbE (Ba4.drew.below hbD Ba4.drew.lt).lt
        have Bb5 := (Bb4.drew.below hbD Bb4.drew.lt).below hbE (Bb4.drew.below hbD Bb4.drew.lt).lt
        have b5 := (b4.drew.trans (hbD.mono b4.size)).trans (hbE.mono (Nat.le_trans b4.size hbD.size))
        clear hbD hbE Ba4 Bb4 b4 p0 p1 p2 p3 p4 q0 q1 q2 q3 q4
        go_wp2_with fail
        go_ret
        exact ⟨ret_num HR.out.symm, b5⟩
    · rw [show decide (numOk b) = false from decide_eq_false hnb]
      have HR := Lib.hid (HNO.out (fun h => hnb h.2))
      clear hnb
      go_wp2_with fail
      go_ret
      exact ⟨ret_num HR.out.symm, b4⟩
  · rw [show decide (numOk a) = false from decide_eq_false hna]
    have HR := Lib.hid (HNO.out (fun h => hna h.1))
    clear hna
    go_wp2_with fail
    go_ret
    exact ⟨ret_num HR.out.symm, b3⟩
end Go.Proofs.YtbfddabljkoapaaGreatDoor

/-
  What the drawn laws call: bytes that came in; whether they are many.
-/
namespace Go.Proofs.YtbfddabljkoapaaGreatDoor
open Go.RowKit
set_option linter.unusedVariables false
set_option linter.unusedSimpArgs false
set_option maxRecDepth 100000

theorem bytes_of : ∀ (l : List Int), (∀ z ∈ l, (Lit.int .u8 z).wf = true) → ∃ code : List UInt8, code.length = l.length ∧ l.map (Value.int .u8) = code.map bv
  | [], _ => ⟨[], rfl, rfl⟩
  | z :: l, h => by
    obtain ⟨code, h1, h2⟩ := bytes_of l (fun x hx => h x (List.mem_cons_of_mem _ hx))
    have hz := h z List.mem_cons_self
    have hr : 0 ≤ z ∧ z ≤ 255 := by simpa [Lit.wf, IntKind.min, IntKind.max, IntKind.signed, IntKind.bits] using hz
    refine ⟨UInt8.ofNat z.toNat :: code, by simp [h1], ?_⟩
    rw [List.map_cons, List.map_cons, h2]
    congr 1
    unfold bv
    congr 1
    rw [UInt8.toNat_ofNat']
    omega
theorem lawBig (A : Option Addr) (n c : Nat) (w : World) (h : n ≤ 1048576) : Calls Tryz.prog 6 #[.slice A n c] w fun e w' => e = .returned (.bool false) ∧ w' = w := by
  have h2 : ¬ (1048576 : Int) < (n : Int) := by omega
  go_enter Tryz.func6, Tryz.ntmps6
  go_wp2_with fail
  go_ret
  exact ⟨rfl, rfl⟩
theorem lawBigY (A : Option Addr) (n c : Nat) (w : World) (h : 1048576 < n) : Calls Tryz.prog 6 #[.slice A n c] w fun e w' => e = .returned (.bool true) ∧ w' = w := by
  have h2 : (1048576 : Int) < (n : Int) := by omega
  go_enter Tryz.func6, Tryz.ntmps6
  go_wp2_with fail
  go_ret
  exact ⟨rfl, rfl⟩
theorem row_of {w : World} {base : Nat} {e : TypeId} {o : Value} {n : Nat} {xs : List Value} (h : w.ownsRow base e 1 o n xs) : ∃ A c, o = .slice A n c := by
  rcases h.2 with ⟨rfl, rfl⟩ | ⟨g, c, cur, rfl, _⟩
  · exact ⟨none, 0, rfl⟩
  · exact ⟨_, _, rfl⟩
end Go.Proofs.YtbfddabljkoapaaGreatDoor

/-
  The library's listed tables, as a row lists them, lie as the contracts ask (by the names that utf8.ValidString reads).
-/
namespace Go.Proofs.YtbfddabljkoapaaGreatDoor
open Go.RowKit Go.Shelf Go.Lib

theorem accD : (Rows.laid_unicode_utf8_acceptRanges : DataW Unit) = Lib.acceptData := by kernel_rfl
theorem fstD : Rows.laid_unicode_utf8_first = Lib.firstData := Pinned.utf8First_eq
theorem extraU8 : U8Extra Tryz.prog Tryz.laysV196_ren := ⟨by kernel_rfl, by kernel_rfl, by kernel_rfl, by kernel_rfl, by kernel_rfl, by kernel_rfl, by kernel_rfl⟩
theorem tabs_of_laid {l : List (String × DataW Unit)} {W : World} (h : laidMet Tryz.prog l W) (ha : ("unicode/utf8.acceptRanges", Rows.laid_unicode_utf8_acceptRanges) ∈ l) (hf : ("unicode/utf8.first", Rows.laid_unicode_utf8_first) ∈ l) : Tabs W :=
  utf8Tabs_of_readsT (.of196 Tryz.laysV196) extraU8 (fstD ▸ Lib.laidMet.reads h hf) (accD ▸ Lib.laidMet.reads h ha)
end Go.Proofs.YtbfddabljkoapaaGreatDoor
