/-
  The texts on which the last one leans, part 1.
-/
import Derived.Test.YtbfddabljkoapaaGreatDoorOk
import Derived.Test.YtbfddabljkoapaaGreatDoorShelf
import Derived.BigQuiet
import Derived.Deep.QuietTactic
import Derived.ChangeSlices
import Derived.SliceStrings
import Derived.Deep.Slices
import Derived.Laws.Rows
import Derived.Deep.RegionHeld3
import Derived.Deep.LoopGhost
import Derived.Lib.ItoaNum
import Derived.Lib.AtoiAllCases
import Derived.Lib.AppendIntMem
import Derived.Lib.LaidU8
import Derived.Lib.SmallJoins
import Derived.Stop.LaidErr
import Derived.Shelf.Strings.SplitShaped
import Derived.Test.YtbfddabljkoapaaGreatDoorShelfS
import Derived.PinnedBridge
import Derived.Lib.LaidCase
import Derived.HandedShaped
/-
  Signs and their bytes, back and forth, plainly.
-/
namespace Go.Proofs.YtbfddabljkoapaaGreatDoor
open Go.RowKit
set_option linter.unusedVariables false
set_option linter.unusedSimpArgs false
set_option maxRecDepth 100000

theorem isSg_range {n : Nat} (h : isSg (n : Int) = true) : n < 55296 ∨ (57343 < n ∧ n < 1114112) := by
  unfold isSg at h
  simp at h
  omega
theorem sig_bytes {n : Nat} (h : isSg (n : Int) = true) : (signB (n : Int)).data.toList.map UInt8.toNat = encN n := by
  rw [sgN_eq]
  unfold sgN
  rw [if_pos (isSg_range h)]
theorem get_map (s : ByteArray) (k : Nat) (h : k < s.size) (h2 : k < (s.data.toList.map UInt8.toNat).length) : (s.data.toList.map UInt8.toNat)[k] = (s.get! k).toNat := by
  rw [List.getElem_map, ← get_get! s k h]
  rfl
theorem sig_get {n : Nat} (h : isSg (n : Int) = true) (k : Nat) (hk : k < (encN n).length) : ((signB (n : Int)).get! k).toNat = (encN n)[k] := by
  have hb := sig_bytes h
  have hl : (signB (n : Int)).size = (encN n).length := by rw [← hb, List.length_map, ← Lib.size_eq]
  have h1 := get_map (signB (n : Int)) k (by omega) (by rw [hb]; exact hk)
  rw [← h1]
  simp only [hb]
theorem signB_zero (n : Int) : (signB n).size = 0 ↔ isSg n = false := by
  cases h : isSg n with
  | false => unfold signB; rw [if_neg (by rw [h]; decide)]; exact ⟨fun _ => rfl, fun _ => rfl⟩
  | true =>
    refine ⟨fun h2 => ?_, fun h2 => by cases h2⟩
    exfalso
    obtain ⟨k, rfl⟩ := Int.eq_ofNat_of_zero_le (isSg_pos h)
    have h1 := congrArg List.length (sgN_eq k)
    rw [List.length_map] at h1
    have h3 : (signB (k : Int)).data.toList.length = (signB (k : Int)).size := (Lib.size_eq _).symm
    rw [h3, h2] at h1
    have h4 : sgN k = encN k := by
      unfold sgN
      rw [if_pos]
      unfold isSg at h
      simp at h
      omega
    rw [h4] at h1
    unfold encN at h1
    repeat' split at h1
    all_goals simp at h1
theorem gs_at {s : ByteArray} {i n : Nat} (h : isSg (n : Int) = true) (hin : i + (signB (n : Int)).size ≤ s.size) (hpc : piece s i (signB (n : Int)).size = (signB (n : Int)).data.toList) : gsOk s (i : Int) ∧ Utf8.decode s i = (n, (signB (n : Int)).size) := by
  have hb := sig_bytes h
  have hg : ∀ k (hk : k < (encN n).length), (s.get! (i + k)).toNat = (encN n)[k] := fun k hk => by
    have hl : (signB (n : Int)).size = (encN n).length := by rw [← sig_bytes h, List.length_map, ← Lib.size_eq]
    have h1 := congrArg (List.map UInt8.toNat) hpc
    rw [pcN_eq s i _ hin, sig_bytes h] at h1
    have h2 : (pcN s i (signB (n : Int)).size)[k]? = (encN n)[k]? := by rw [h1]
    unfold pcN at h2
    rw [List.getElem?_map, List.getElem?_range (by omega), List.getElem?_eq_getElem hk] at h2
    simpa using h2
  have hr := isSg_range h
  have hl : (signB (n : Int)).size = (encN n).length := by rw [← hb, List.length_map, ← Lib.size_eq]
  have hp : pcN s i (signB (n : Int)).size = sgN n := by
    rw [← pcN_eq _ i _ hin, ← sgN_eq, hpc]
  have key : manyN (s.get! i).toNat = (signB (n : Int)).size ∧ accN s i ((signB (n : Int)).size - 1) = n := by
    rw [hl]
    revert hg
    unfold encN
    split
    · intro hg
      have h0 := hg 0 (by simp)
      rw [Nat.add_zero] at h0
      simp only [List.getElem_cons_zero] at h0
      refine ⟨?_, ?_⟩
      · rw [h0]; unfold manyN; rw [if_pos (by omega)]; rfl
      · show headN _ = _
        rw [h0]; unfold headN; rw [if_pos (by omega)]
    · split
      · intro hg
        have h0 := hg 0 (by simp)
        rw [Nat.add_zero] at h0
        have h1 := hg 1 (by simp)
        simp only [List.getElem_cons_zero, List.getElem_cons_succ] at h0 h1
        refine ⟨?_, ?_⟩
        · rw [h0]; unfold manyN; rw [if_neg (by omega), if_pos (by omega)]; rfl
        · show headN _ * 64 + (s.get! (i + (0 + 1))).toNat % 64 = n
          rw [h0, show (0 + 1 : Nat) = 1 from rfl, h1]; unfold headN; rw [if_neg (by omega), if_pos (by omega)]; omega
      · split
        · intro hg
          have h0 := hg 0 (by simp)
          rw [Nat.add_zero] at h0
          have h1 := hg 1 (by simp)
          have h2 := hg 2 (by simp)
          simp only [List.getElem_cons_zero, List.getElem_cons_succ] at h0 h1 h2
          refine ⟨?_, ?_⟩
          · rw [h0]; unfold manyN; rw [if_neg (by omega), if_neg (by omega), if_pos (by omega)]; rfl
          · show (headN _ * 64 + (s.get! (i + (0 + 1))).toNat % 64) * 64 + (s.get! (i + (1 + 1))).toNat % 64 = n
            rw [h0, show (0 + 1 : Nat) = 1 from rfl, h1, show (1 + 1 : Nat) = 2 from rfl, h2]; unfold headN; rw [if_neg (by omega), if_neg (by omega), if_pos (by omega)]; omega
        · intro hg
          have h0 := hg 0 (by simp)
          rw [Nat.add_zero] at h0
          have h1 := hg 1 (by simp)
          have h2 := hg 2 (by simp)
          have h3 := hg 3 (by simp)
          simp only [List.getElem_cons_zero, List.getElem_cons_succ] at h0 h1 h2 h3
          refine ⟨?_, ?_⟩
          · rw [h0]; unfold manyN; rw [if_neg (by omega), if_neg (by omega), if_neg (by omega), if_pos (by omega)]; rfl
          · show ((headN _ * 64 + (s.get! (i + (0 + 1))).toNat % 64) * 64 + (s.get! (i + (1 + 1))).toNat % 64) * 64 + (s.get! (i + (2 + 1))).toNat % 64 = n
            rw [h0, show (0 + 1 : Nat) = 1 from rfl, h1, show (1 + 1 : Nat) = 2 from rfl, h2, show (2 + 1 : Nat) = 3 from rfl, h3]; unfold headN; rw [if_neg (by omega), if_neg (by omega), if_neg (by omega), if_pos (by omega)]; omega
  have hpos : 0 < (signB (n : Int)).size := by
    have := (signB_zero (n : Int))
    rcases Nat.eq_zero_or_pos (signB (n : Int)).size with h0 | h0
    · rw [this.1 h0] at h; cases h
    · exact h0
  have hs := sgn_some s i (signB (n : Int)).size key.1.symm hpos hin
  have hok : gsOk s (i : Int) := hs.1.2 (by rw [key.2, hp])
  exact ⟨hok, by rw [hs.2 hok, key.2]⟩
theorem gs_back {n : Nat} (h : isSg (n : Int) = true) : gsOk (signB (n : Int)) 0 ∧ Utf8.decode (signB (n : Int)) 0 = (n, (signB (n : Int)).size) := by
  refine gs_at (i := 0) h (by omega) ?_
  unfold piece
  rw [List.drop_zero, List.take_of_length_le (by rw [← Lib.size_eq]; exact Nat.le_refl _)]
theorem gs_back2 {z : Int} (h : isSg z = true) : (signB z).size ≠ 0 ∧ gsN (signB z) 0 = z ∧ gsE (signB z) 0 = ((signB z).size : Int) := by
  have hne : (signB z).size ≠ 0 := fun h0 => absurd ((signB_zero z).1 h0) (by rw [h]; decide)
  obtain ⟨n, rfl⟩ := Int.eq_ofNat_of_zero_le (isSg_pos h)
  have hg := gs_back h
  clear h
  generalize signB (n : Int) = S at *
  have e : Utf8.decode S (Int.toNat 0) = (n, S.size) := hg.2
  unfold gsN gsE
  rw [if_pos hg.1, if_pos hg.1, e]
  exact ⟨hne, rfl, Int.zero_add _⟩
/-- The signs read of a text are all of its bytes. -/
theorem rest_all (s : ByteArray) : ∀ (N i : Nat) (l : List Nat), s.size - i ≤ N → i ≤ s.size → restF s i = some l → l.flatMap (fun (n : Nat) => (signB (n : Int)).data.toList) = s.data.toList.drop i
  | 0, i, l, hN, hi, h => by
    rw [restF_end s i (by omega)] at h
    injection h with h
    subst h
    rw [List.drop_eq_nil_of_le (by rw [← Lib.size_eq]; omega)]
    rfl
  | N + 1, i, l, hN, hi, h => by
    by_cases hlt : i < s.size
    · by_cases hok : gsOk s (i : Int)
      · rw [restF_ok s i hlt hok] at h
        cases hr : restF s (i + (Utf8.decode s i).2) with
        | none => rw [hr] at h; cases h
        | some r =>
          rw [hr] at h
          injection h with h
          subst h
          have hd := dec_pos s i
          have hl := dec_le s i hlt
          have ih := rest_all s N (i + (Utf8.decode s i).2) r (by omega) hl hr
          rw [List.flatMap_cons, ih, (sign_piece hlt hok).2]
          unfold piece
          rw [← List.drop_drop, List.take_append_drop]
      · rw [restF_bad s i hlt hok] at h; cases h
    · rw [restF_end s i (by omega)] at h
      injection h with h
      subst h
      rw [List.drop_eq_nil_of_le (by rw [← Lib.size_eq]; omega)]
      rfl
/-- A text's signs, one behind the other, are the text. -/
def sigsTo (l : List Nat) : List UInt8 := l.flatMap fun (n : Nat) => (signB (n : Int)).data.toList
theorem sigs_all {s : ByteArray} (h : textOk s = true) : sigsTo (signsL s) = s.data.toList := by
  unfold textOk at h
  unfold signsL sigsTo
  cases hr : restF s 0 with
  | none => rw [hr] at h; cases h
  | some l =>
    have := rest_all s _ 0 l (Nat.le_refl _) (Nat.zero_le _) hr
    rw [List.drop_zero] at this
    exact this
theorem sigs_step (l : List Nat) (j : Nat) (h : j < l.length) : sigsTo (l.take (j + 1)) = sigsTo (l.take j) ++ (signB ((l[j] : Nat) : Int)).data.toList := by
  unfold sigsTo
  rw [List.take_add_one, List.getElem?_eq_getElem h, List.flatMap_append]
  simp
theorem sigs_len (l : List Nat) (j : Nat) : (sigsTo (l.take j)).length ≤ 4 * j := by
  unfold sigsTo
  induction j with
  | zero => simp
  | succ j ih =>
    by_cases h : j < l.length
    · have := sigs_step l j h
      unfold sigsTo at this
      rw [this, List.length_append]
      have h2 := signB_len ((l[j] : Nat) : Int)
      rw [Lib.size_eq] at h2
      omega
    · rw [List.take_of_length_le (by omega)] at ih ⊢
      omega
/-- Signs that are read are below a bound. -/
theorem rest_lt (s : ByteArray) : ∀ (N i : Nat) (l : List Nat), s.size - i ≤ N → i ≤ s.size → restF s i = some l → ∀ n ∈ l, n < 4294967296
  | 0, i, l, hN, hi, h => by
    rw [restF_end s i (by omega)] at h
    injection h with h
    subst h
    intro n hn; cases hn
  | N + 1, i, l, hN, hi, h => by
    by_cases hlt : i < s.size
    · by_cases hok : gsOk s (i : Int)
      · rw [restF_ok s i hlt hok] at h
        cases hr : restF s (i + (Utf8.decode s i).2) with
        | none => rw [hr] at h; cases h
        | some r =>
          rw [hr] at h
          injection h with h
          subst h
          have hd := dec_pos s i
          have hl := dec_le s i hlt
          have ih := rest_lt s N (i + (Utf8.decode s i).2) r (by omega) hl hr
          intro n hn
          rcases List.mem_cons.1 hn with rfl | hn
          · rw [Lib.decode_at]
            have h0 := (s.get! i).toNat_lt
            have h1 := (s.get! (i + 1)).toNat_lt
            have h2 := (s.get! (i + 2)).toNat_lt
            have h3 := (s.get! (i + 3)).toNat_lt
            unfold Lib.decodeN
            repeat' split
            all_goals simp
            all_goals omega
          · exact ih n hn
      · rw [restF_bad s i hlt hok] at h; cases h
    · rw [restF_end s i (by omega)] at h
      injection h with h
      subst h
      intro n hn; cases hn
theorem signs_lt (s : ByteArray) : ∀ n ∈ signsL s, n < 4294967296 := by
  unfold signsL
  cases hr : restF s 0 with
  | none => intro n hn; cases hn
  | some l => exact rest_lt s _ 0 l (Nat.le_refl _) (Nat.zero_le _) hr
end Go.Proofs.YtbfddabljkoapaaGreatDoor

/-
  A text comes back from its quotes; what Unquote hands back is a text; bytes come back from their digits: plainly.
-/
namespace Go.Proofs.YtbfddabljkoapaaGreatDoor
open Go.RowKit
set_option linter.unusedVariables false
set_option linter.unusedSimpArgs false
set_option maxRecDepth 100000

theorem at_drop {s : ByteArray} {p : Nat} {l : List UInt8} (h : s.data.toList.drop p = l) (k : Nat) (hk : k < l.length) : s.get! (p + k) = l[k] ∧ p + k < s.size := by
  have hl := congrArg List.length h
  rw [List.length_drop, ← Lib.size_eq] at hl
  have hlt : p + k < s.size := by omega
  refine ⟨?_, hlt⟩
  rw [← get_get! s (p + k) hlt]
  have e : l[k]? = some s[p + k] := by
    rw [← h, List.getElem?_drop, List.getElem?_eq_getElem (by rw [← Lib.size_eq]; exact hlt)]
    rfl
  rw [List.getElem?_eq_getElem hk] at e
  exact (Option.some.inj e).symm
theorem piece_drop {s : ByteArray} {p : Nat} {a b : List UInt8} (h : s.data.toList.drop p = a ++ b) : piece s p a.length = a := by
  unfold piece
  rw [h, List.take_left']
  rfl
theorem sg_of_ok {s : ByteArray} {i : Nat} (hi : i < s.size) (hok : gsOk s (i : Int)) : isSg ((Utf8.decode s i).1 : Int) = true ∧ (signB ((Utf8.decode s i).1 : Int)).size = (Utf8.decode s i).2 := by
  have hp := (sign_piece hi hok).2
  have hd := dec_le s i hi
  have hl : (signB ((Utf8.decode s i).1 : Int)).size = (Utf8.decode s i).2 := by
    rw [Lib.size_eq, hp, piece_len _ _ _ hd]
  refine ⟨?_, hl⟩
  cases h : isSg ((Utf8.decode s i).1 : Int) with
  | true => rfl
  | false =>
    have := (signB_zero _).2 h
    have := dec_pos s i
    omega
/-- The bytes of a sign: one below 128, or all from 128 on. -/
theorem sig_kinds {n : Nat} (h : isSg (n : Int) = true) : (n < 128 ∧ (signB (n : Int)).data.toList = [UInt8.ofNat n]) ∨ (128 ≤ n ∧ ∀ b ∈ (signB (n : Int)).data.toList, 128 ≤ b.toNat) := by
  have hb := sig_bytes h
  have hr := isSg_range h
  rcases Nat.lt_or_ge n 128 with h1 | h1
  · left
    refine ⟨h1, map_toNat_inj ?_⟩
    rw [hb]
    unfold encN
    rw [if_pos h1]
    simp
    omega
  · right
    refine ⟨h1, fun b hbm => ?_⟩
    have hm : b.toNat ∈ encN n := by rw [← hb]; exact List.mem_map_of_mem hbm
    revert hm
    unfold encN
    rw [if_neg (by omega)]
    repeat' split
    all_goals (intro hm; simp only [List.mem_cons, List.not_mem_nil, or_false] at hm; omega)
theorem sig_one {n : Nat} (h : n < 128) : (signB (n : Int)).data.toList = [UInt8.ofNat n] := by
  have hs : isSg (n : Int) = true := by unfold isSg; simp; omega
  rcases sig_kinds hs with h1 | h1
  · exact h1.2
  · omega
theorem escL_high {b : UInt8} (h : 128 ≤ b.toNat) : escL b = [b] := by
  apply escL_own
  · unfold shortOf
    rw [if_neg (by omega), if_neg (by omega), if_neg (by omega), if_neg (by omega), if_neg (by omega), if_neg (by omega), if_neg (by omega)]
  · omega
theorem esc_high : ∀ (l : List UInt8), (∀ b ∈ l, 128 ≤ b.toNat) → l.flatMap escL = l
  | [], _ => rfl
  | b :: l, h => by
    rw [List.flatMap_cons, escL_high (h b List.mem_cons_self), esc_high l (fun x hx => h x (List.mem_cons_of_mem _ hx))]
    rfl
theorem hexD_val (n : Nat) (h : n < 16) : hxV (hexD n).toNat = (n : Int) := by
  have : ∀ m : Fin 16, hxV (hexD m.val).toNat = (m.val : Int) := by decide
  exact this ⟨n, h⟩
/-- What a byte below 32 is told by is read as that byte. -/
theorem esc_low {s : ByteArray} {p : Nat} {b : UInt8} {r : List UInt8} (h1 : shortOf b.toNat = 0) (h2 : b.toNat < 32) (h : s.data.toList.drop p = escL b ++ r) : escAt s p = some (signB (b.toNat : Int), p + 6) := by
  rw [escL_low h1 h2] at h
  have hh : hexOf [b] = [hexD (b.toNat / 16), hexD (b.toNat % 16)] := rfl
  rw [hh] at h
  have g1 := at_drop h 1 (by simp)
  have g2 := at_drop h 2 (by simp)
  have g3 := at_drop h 3 (by simp)
  have g4 := at_drop h 4 (by simp)
  have g5 := at_drop h 5 (by simp)
  simp only [List.cons_append, List.nil_append, List.getElem_cons_zero, List.getElem_cons_succ] at g1 g2 g3 g4 g5
  have e2 : s.get! (p + 2 + 0) = 48 := g2.1
  have e3 : s.get! (p + 2 + 1) = 48 := g3.1
  have e4 : s.get! (p + 2 + 2) = hexD (b.toNat / 16) := g4.1
  have e5 : s.get! (p + 2 + 3) = hexD (b.toNat % 16) := g5.1
  have x0 : hxV (48 : UInt8).toNat = 0 := by decide
  have x4 := hexD_val (b.toNat / 16) (by omega)
  have x5 := hexD_val (b.toNat % 16) (by omega)
  have hacc : accH s (p + 2) 4 = (b.toNat : Int) := by
    show 16 * (16 * (16 * (16 * (0 : Int) + hxV (s.get! (p + 2 + 0)).toNat) + hxV (s.get! (p + 2 + 1)).toNat) + hxV (s.get! (p + 2 + 2)).toNat) + hxV (s.get! (p + 2 + 3)).toNat = _
    rw [e2, e3, e4, e5, x0, x4, x5]
    omega
  have hto : hexTo s (p + 2) 4 := by
    intro k hk
    match k, hk with
    | 0, _ => rw [e2, x0]; exact Int.le_refl _
    | 1, _ => rw [e3, x0]; exact Int.le_refl _
    | 2, _ => rw [e4, x4]; exact Int.natCast_nonneg _
    | 3, _ => rw [e5, x5]; exact Int.natCast_nonneg _
  have hu : unitZ s (p + 2) = (b.toNat : Int) := by
    unfold unitZ
    rw [if_pos ⟨by omega, hto⟩, hacc]
  have hsg : isSg (b.toNat : Int) = true := by unfold isSg; simp; omega
  have := esc_one (s := s) (i := p) (by omega) (by rw [g1.1]; rfl) (by rw [hu]; omega) (by rw [hu]; exact hsg)
  rw [hu] at this
  exact this
theorem esc_short {s : ByteArray} {p : Nat} {b : UInt8} {r : List UInt8} (h1 : shortOf b.toNat ≠ 0) (h : s.data.toList.drop p = escL b ++ r) : escAt s p = some (signB (b.toNat : Int), p + 2) ∧ (escL b).length = 2 := by
  have he : escL b = [92, UInt8.ofNat (shortOf b.toNat)] := by unfold escL; rw [if_pos h1]
  rw [he] at h ⊢
  have g1 := at_drop h 1 (by simp)
  simp only [List.cons_append, List.nil_append, List.getElem_cons_zero, List.getElem_cons_succ] at g1
  have hsl := short_long h1
  have hlt := shortOf_lt b.toNat
  have hc : (s.get! (p + 1)).toNat = shortOf b.toNat := by rw [g1.1, UInt8.toNat_ofNat']; omega
  have hl : longOf (shortOf b.toNat) ≠ 0 := by
    rw [hsl.1]
    intro h0
    rw [h0] at h1
    exact h1 rfl
  refine ⟨?_, rfl⟩
  have e : str [UInt8.ofNat b.toNat] = signB (b.toNat : Int) := by
    apply ba_ext
    rw [sig_one hsl.2.2]
    rfl
  rw [esc_long (by omega) hc hl, hsl.1, e]
/-- From a sign's place in the text, and its place in the quoted one. -/
theorem quote_rest (q s : ByteArray) : ∀ (N j p : Nat) (out : List UInt8), q.size - j ≤ N → j ≤ q.size → (restF q j).isSome → p + ((q.data.toList.drop j).flatMap escL).length + 1 = s.size → s.data.toList.drop p = (q.data.toList.drop j).flatMap escL ++ [34] → unqF s p out = some (out ++ q.data.toList.drop j, s.size)
  | N, j, p, out, hN, hj, hr, hlen, hd => by
    by_cases hlt : j < q.size
    · have hok : gsOk q (j : Int) := by
        apply Classical.byContradiction
        intro hno
        rw [restF_bad q j hlt hno] at hr
        cases hr
      cases N with
      | zero => omega
      | succ N =>
        have hsg := sg_of_ok hlt hok
        have hpc := (sign_piece hlt hok).2
        have hdl := dec_le q j hlt
        have hdp := dec_pos q j
        have hr2 : (restF q (j + (Utf8.decode q j).2)).isSome := by
          rw [restF_ok q j hlt hok] at hr
          cases hx : restF q (j + (Utf8.decode q j).2) with
          | none => rw [hx] at hr; cases hr
          | some l => rfl
        have hsplit : q.data.toList.drop j = piece q j (Utf8.decode q j).2 ++ q.data.toList.drop (j + (Utf8.decode q j).2) := by
          unfold piece
          rw [← List.drop_drop, List.take_append_drop]
        have ih := fun p' out' h1 h2 => quote_rest q s N (j + (Utf8.decode q j).2) p' out' (by omega) hdl hr2 h1 h2
        rw [hsplit, List.flatMap_append, List.append_assoc] at hd
        rw [hsplit, List.flatMap_append, List.length_append] at hlen
        rw [hsplit, ← List.append_assoc, ← hpc]
        rw [← hpc] at hd hlen
        rcases sig_kinds hsg.1 with ⟨hn, hb⟩ | ⟨hn, hb⟩
        · rw [hb] at hd hlen ⊢
          generalize hbb : UInt8.ofNat (Utf8.decode q j).1 = b at *
          have hbn : b.toNat = (Utf8.decode q j).1 := by rw [← hbb, UInt8.toNat_ofNat']; omega
          have hw : (Utf8.decode q j).2 = 1 := by rw [← hsg.2, Lib.size_eq, hb]; rfl
          simp only [List.flatMap_cons, List.flatMap_nil, List.append_nil] at hd hlen
          have hbs : (signB (b.toNat : Int)).data.toList = [b] := by rw [sig_one (by omega)]; simp
          have hplt : p < s.size := by omega
          by_cases hsh : shortOf b.toNat = 0
          · by_cases hlow : b.toNat < 32
            · have hE := esc_low hsh hlow hd
              have hel : (escL b).length = 6 := by rw [escL_low hsh hlow]; rfl
              have g0 := at_drop hd 0 (by rw [escL_low hsh hlow]; simp)
              have g00 : (s.get! p).toNat = 92 := by
                have := g0.1
                rw [Nat.add_zero] at this
                rw [this]
                simp only [escL_low hsh hlow]
                rfl
              rw [unqF_eq, if_neg (by omega), if_neg (by omega), if_pos g00, hE]
              show unqF s (p + 6) (out ++ (signB (b.toNat : Int)).data.toList) = _
              rw [hbs]
              refine ih (p + 6) (out ++ [b]) (by omega) ?_
              have := congrArg (List.drop 6) hd
              rw [List.drop_drop, ← hel, List.drop_left] at this
              rw [← hel]
              exact this
            · have hel : escL b = [b] := escL_own hsh hlow
              rw [hel] at hd hlen
              have g0 := at_drop hd 0 (by simp)
              have g00 : s.get! p = b := by have := g0.1; rw [Nat.add_zero] at this; exact this
              have h34 : b.toNat ≠ 34 := fun h => by rw [h] at hsh; exact absurd hsh (by decide)
              have h92 : b.toNat ≠ 92 := fun h => by rw [h] at hsh; exact absurd hsh (by decide)
              have hga := gs_at (s := s) (i := p) (n := (Utf8.decode q j).1) hsg.1 (by rw [hsg.2, hw]; omega) (by
                rw [hb, hsg.2, hw]
                exact piece_drop (a := [b]) hd)
              rw [hsg.2, hw] at hga
              rw [unqF_eq, if_neg (by omega), g00, if_neg h34, if_neg h92, if_pos ⟨hga.1, by omega⟩, hga.2]
              show unqF s (p + 1) (out ++ piece s p 1) = _
              have hpp1 : piece s p 1 = [b] := piece_drop (a := [b]) hd
              rw [hpp1]
              refine ih (p + 1) (out ++ [b]) (by rw [List.length_singleton] at hlen; omega) ?_
              have := congrArg (List.drop 1) hd
              rw [List.drop_drop] at this
              exact this
          · obtain ⟨hE, hel⟩ := esc_short hsh hd
            have he2 : escL b = [92, UInt8.ofNat (shortOf b.toNat)] := by unfold escL; rw [if_pos hsh]
            have g0 := at_drop hd 0 (by rw [he2]; simp)
            have g00 : (s.get! p).toNat = 92 := by
              have := g0.1
              rw [Nat.add_zero] at this
              rw [this]
              simp only [he2]
              rfl
            rw [unqF_eq, if_neg (by omega), if_neg (by omega), if_pos g00, hE]
            show unqF s (p + 2) (out ++ (signB (b.toNat : Int)).data.toList) = _
            rw [hbs]
            refine ih (p + 2) (out ++ [b]) (by omega) ?_
            have := congrArg (List.drop 2) hd
            rw [List.drop_drop, ← hel, List.drop_left] at this
            rw [← hel]
            exact this
        · rw [esc_high _ hb] at hd hlen
          have hl : ((signB ((Utf8.decode q j).1 : Int)).data.toList).length = (Utf8.decode q j).2 := by rw [← Lib.size_eq]; exact hsg.2
          have hpp := piece_drop hd
          rw [hl] at hpp
          have hga := gs_at (s := s) (i := p) (n := (Utf8.decode q j).1) hsg.1 (by rw [hsg.2]; omega) (by rw [hsg.2]; exact hpp)
          rw [hsg.2] at hga
          have g0 := at_drop hd 0 (by rw [List.length_append, hl]; omega)
          have hb0 : 128 ≤ (s.get! p).toNat := by
            have h1 := g0.1
            rw [Nat.add_zero] at h1
            rw [h1, List.getElem_append_left (by omega)]
            exact hb _ (List.getElem_mem _)
          rw [unqF_eq, if_neg (by omega), if_neg (by omega), if_neg (by omega), if_pos ⟨hga.1, by omega⟩, hga.2]
          show unqF s (p + (Utf8.decode q j).2) (out ++ piece s p (Utf8.decode q j).2) = _
          rw [hpp]
          refine ih (p + (Utf8.decode q j).2) _ (by omega) ?_
          have := congrArg (List.drop (Utf8.decode q j).2) hd
          rw [List.drop_drop, ← hl, List.drop_left] at this
          rw [← hl]
          exact this
    · have hj2 : j = q.size := by omega
      subst hj2
      have hnil : q.data.toList.drop q.size = [] := List.drop_eq_nil_of_le (by rw [← Lib.size_eq]; exact Nat.le_refl _)
      rw [hnil] at hd hlen ⊢
      have g0 := at_drop hd 0 (by simp)
      have g00 : (s.get! p).toNat = 34 := by have := g0.1; rw [Nat.add_zero] at this; rw [this]; rfl
      have hps : p + 1 = s.size := by simpa using hlen
      rw [unqF_eq, if_neg (by omega), if_pos g00, List.append_nil, hps]
theorem unquote_quote {q : ByteArray} (h : textOk q = true) : unqB (quoteB q) 0 = q ∧ unqE (quoteB q) 0 = ((quoteB q).size : Int) := by
  have hq : quoteB q = str (34 :: q.data.toList.flatMap escL ++ [34]) := by
    unfold quoteB qTo
    rw [h]
    simp only [if_true]
    rw [List.take_of_length_le (by rw [← Lib.size_eq]; exact Nat.le_refl _)]
  have hdl : (quoteB q).data.toList = 34 :: q.data.toList.flatMap escL ++ [34] := by rw [hq]; simp [str]
  have hsz : (quoteB q).size = (q.data.toList.flatMap escL).length + 2 := by rw [Lib.size_eq, hdl]; simp
  have g0 := at_drop (s := quoteB q) (p := 0) (l := 34 :: q.data.toList.flatMap escL ++ [34]) (by rw [List.drop_zero]; exact hdl) 0 (by simp)
  have h34 : ((quoteB q).get! 0).toNat = 34 := by
    have h1 := g0.1
    rw [Nat.add_zero] at h1
    rw [h1]
    rfl
  have hr := quote_rest q (quoteB q) _ 0 1 [] (Nat.le_refl _) (Nat.zero_le _) h (by rw [List.drop_zero]; omega) (by rw [hdl, List.drop_zero]; rfl)
  have hu : unqP (quoteB q) 0 = some (q.data.toList, (quoteB q).size) := by
    unfold unqP
    rw [if_pos ⟨Int.le_refl _, by omega, h34⟩]
    have e : (Int.toNat 0 + 1) = 1 := rfl
    rw [e, hr, List.drop_zero]
    rfl
  have := unq_some hu
  refine ⟨?_, this.2⟩
  rw [this.1]
  apply ba_ext
  simp [str]
end Go.Proofs.YtbfddabljkoapaaGreatDoor

/-
  GetHex: bytes out of their digits, for a text of at most 1048576 bytes.
-/
namespace Go.Proofs.YtbfddabljkoapaaGreatDoor
open Go.RowKit
set_option linter.unusedVariables false
set_option maxRecDepth 100000

/-- The value of a hexadecimal digit, or -1. -/
def hexV (c : UInt8) : Int := if 48 ≤ c.toNat ∧ c.toNat ≤ 57 then (c.toNat : Int) - 48 else if 97 ≤ c.toNat ∧ c.toNat ≤ 102 then (c.toNat : Int) - 87 else -1
theorem hexV_range (c : UInt8) : -1 ≤ hexV c ∧ hexV c ≤ 15 := by
  unfold hexV; split
  · omega
  · split <;> omega
theorem hexV_index : ∀ c : UInt8, Lib.indexByte (ByteArray.mk #[48, 49, 50, 51, 52, 53, 54, 55, 56, 57, 97, 98, 99, 100, 101, 102]).data.toList c = hexV c := by
  have h : ∀ i : Fin 256, Lib.indexByte (ByteArray.mk #[48, 49, 50, 51, 52, 53, 54, 55, 56, 57, 97, 98, 99, 100, 101, 102]).data.toList (UInt8.ofNat i.val) = hexV (UInt8.ofNat i.val) := by decide +kernel
  intro c
  have := h ⟨c.toNat, UInt8.toNat_lt c⟩
  simpa using this

theorem specDigit (c : UInt8) (w : World) : Calls Tryz.prog 64 #[.int .u8 c.toNat] w fun e w' => e = .returned (.int .i64 (hexV c)) ∧ w' = w := by
  have hu := UInt8.toNat_lt c
  unfold hexV
  split
  · have hd : decide ((c.toNat : Int) ≤ 57) = true := by simp; omega
    go_enter Tryz.func64, Tryz.ntmps64
    go_wp2_with go_in
    go_ret
    exact ⟨rfl, rfl⟩
  · split
    · have hd : decide ((c.toNat : Int) ≤ 57) = false := by simp; omega
      have hd2 : decide ((c.toNat : Int) ≤ 102) = true := by simp; omega
      go_enter Tryz.func64, Tryz.ntmps64
      go_wp2_with go_in
      go_ret
      exact ⟨rfl, rfl⟩
    · rcases (show decide (48 ≤ (c.toNat : Int)) = false ∧ decide (97 ≤ (c.toNat : Int)) = false ∨ decide (48 ≤ (c.toNat : Int)) = true ∧ decide ((c.toNat : Int) ≤ 57) = false ∧ decide (97 ≤ (c.toNat : Int)) = false ∨ decide (48 ≤ (c.toNat : Int)) = true ∧ decide ((c.toNat : Int) ≤ 57) = false ∧ decide (97 ≤ (c.toNat : Int)) = true ∧ decide ((c.toNat : Int) ≤ 102) = false by simp; omega) with hc | hc | hc
      all_goals
        go_enter Tryz.func64, Tryz.ntmps64
        go_wp2_with go_in
        go_ret
        exact ⟨rfl, rfl⟩

theorem implDigit (c : UInt8) (w : World) : Calls Tryz.prog 52 #[.string ⟨#[48, 49, 50, 51, 52, 53, 54, 55, 56, 57, 97, 98, 99, 100, 101, 102]⟩, .int .u8 c.toNat] w fun e w' => e = .returned (.int .i64 (hexV c)) ∧ w' = w := by
  refine (Tryz.strings_IndexByte _ _ w).mono ?_
  rintro e w' ⟨rfl, rfl⟩
  refine ⟨?_, rfl⟩
  rw [Int.toNat_natCast, show c.toNat.toUInt8 = c by simp, hexV_index]

def hexB (a b : UInt8) : UInt8 := UInt8.ofNat (16 * hexV a + hexV b).toNat
/-- The bytes that digits stand for. -/
def hexRead : List UInt8 → Option (List UInt8)
  | [] => some []
  | [_] => none
  | a :: b :: l => if hexV a < 0 ∨ hexV b < 0 then none else (hexRead l).map (hexB a b :: ·)
def ghS (l : List UInt8) : ByteArray := match hexRead l with | some o => str o | none => ⟨#[]⟩
def ghB (l : List UInt8) : Bool := (hexRead l).isSome
/-- What has been read ahead of place j. -/
def HexAt (l : List UInt8) (j : Nat) (pre : List UInt8) : Prop := 2 * pre.length = j ∧ hexRead l = (hexRead (l.drop j)).map (pre ++ ·)
theorem hexAt_zero (l : List UInt8) : HexAt l 0 [] := ⟨rfl, by simp⟩
theorem drop_two (s : ByteArray) (j : Nat) (h : j + 1 < s.size) : s.data.toList.drop j = s[j] :: s[j + 1] :: s.data.toList.drop (j + 2) := by
  have e : s.data.toList.length = s.size := by simp
  rw [List.drop_eq_getElem_cons (by omega), List.drop_eq_getElem_cons (by omega)]
  rfl
theorem hexAt_next {s : ByteArray} {j : Nat} {pre : List UInt8} (h : HexAt s.data.toList j pre) (hj : j + 1 < s.size) (ha : ¬ hexV s[j] < 0) (hb : ¬ hexV s[j + 1] < 0) : HexAt s.data.toList (j + 2) (pre ++ [hexB s[j] s[j + 1]]) := by
  refine ⟨by simp; have := h.1; omega, ?_⟩
  rw [h.2, drop_two s j hj, hexRead, if_neg (by simp [ha, hb]), Option.map_map]
  congr 1
  funext x
  simp
theorem hexAt_bad {s : ByteArray} {j : Nat} {pre : List UInt8} (h : HexAt s.data.toList j pre) (hj : j + 1 < s.size) (hab : hexV s[j] < 0 ∨ hexV s[j + 1] < 0) : ghS s.data.toList = ⟨#[]⟩ ∧ ghB s.data.toList = false := by
  have e : hexRead s.data.toList = none := by rw [h.2, drop_two s j hj, hexRead, if_pos hab]; rfl
  unfold ghS ghB
  rw [e]
  exact ⟨rfl, rfl⟩
theorem hexAt_odd {s : ByteArray} {j : Nat} {pre : List UInt8} (h : HexAt s.data.toList j pre) (hj : j + 1 = s.size) : ghS s.data.toList = ⟨#[]⟩ ∧ ghB s.data.toList = false := by
  have el : s.data.toList.length = s.size := by simp
  have e : hexRead s.data.toList = none := by
    rw [h.2, List.drop_eq_getElem_cons (by omega), List.drop_of_length_le (by omega)]
    rfl
  unfold ghS ghB
  rw [e]
  exact ⟨rfl, rfl⟩
theorem hexAt_end {s : ByteArray} {j : Nat} {pre : List UInt8} (h : HexAt s.data.toList j pre) (hj : j = s.size) : ghS s.data.toList = str pre ∧ ghB s.data.toList = true := by
  have el : s.data.toList.length = s.size := by simp
  have e : hexRead s.data.toList = some pre := by
    rw [h.2, List.drop_of_length_le (by omega)]
    simp [hexRead]
  unfold ghS ghB
  rw [e]
  exact ⟨rfl, rfl⟩
theorem hex_odd : ∀ (n : Nat) (l : List UInt8), l.length = 2 * n + 1 → hexRead l = none := by
  intro n
  induction n with
  | zero =>
    intro l h
    match l, h with
    | [_], _ => rfl
  | succ n ih =>
    intro l h
    match l, h with
    | a :: b :: l, h =>
      rw [hexRead, ih l (by simp at h; omega)]
      split <;> rfl
theorem hexRead_odd (s : ByteArray) (h : s.size % 2 = 1) : ghS s.data.toList = ⟨#[]⟩ ∧ ghB s.data.toList = false := by
  have el : s.data.toList.length = s.size := by simp
  have e := hex_odd (s.size / 2) s.data.toList (by omega)
  unfold ghS ghB
  rw [e]
  exact ⟨rfl, rfl⟩
theorem hex_value (a b : UInt8) (ha : ¬ hexV a < 0) (hb : ¬ hexV b < 0) : Value.int .u8 (16 * hexV a + hexV b) = bv (hexB a b) := by
  have h1 := hexV_range a
  have h2 := hexV_range b
  unfold bv hexB
  rw [UInt8.toNat_ofNat']
  congr 1
  omega
theorem hex_or (a b : UInt8) (ha : ¬ hexV a < 0) (hb : ¬ hexV b < 0) : bits .or .i64 (hexV a * 16) (hexV b) = 16 * hexV a + hexV b := by
  have h1 := hexV_range a
  have h2 := hexV_range b
  have h : ∀ x y : Fin 16, bits .or .i64 ((x.val : Int) * 16) (y.val : Int) = 16 * (x.val : Int) + (y.val : Int) := by decide +kernel
  have := h ⟨(hexV a).toNat, by omega⟩ ⟨(hexV b).toNat, by omega⟩
  simp only [] at this
  rw [show ((hexV a).toNat : Int) = hexV a by omega, show ((hexV b).toNat : Int) = hexV b by omega] at this
  exact this

/-- What the loops hold at place j. -/
def GhRel (s : ByteArray) (w : World) (v i : Value) (wr : World) : Prop :=
  ∃ (j : Nat) (pre : List UInt8), j ≤ s.size ∧ i = .int .i64 j ∧ HexAt s.data.toList j pre ∧ pre.length ≤ j ∧ wr.ownsRow w.heap.size 5 1 v pre.length (pre.map bv) ∧ Below w.heap.size w wr
theorem gh_next {s : ByteArray} {w wr : World} {j : Nat} {pre : List UInt8} {v : Value} {x : Int} (h : Hid (HexAt s.data.toList j pre)) (hj : j + 1 < s.size) (ha : ¬ hexV s[j] < 0) (hb : ¬ hexV s[j + 1] < 0) (hx : x = 16 * hexV s[j] + hexV s[j + 1])
    (hown : wr.ownsRow w.heap.size 5 1 v (pre.length + 1) (pre.map bv ++ [.int .u8 x])) (hbl : Below w.heap.size w wr) : GhRel s w v (.int .i64 ((j : Int) + 2)) wr := by
  subst hx
  rw [hex_value _ _ ha hb] at hown
  have h' := hexAt_next h.out hj ha hb
  exact ⟨j + 2, _, by omega, by go_num, h', by have := h'.1; omega, by simpa using hown, hbl⟩
theorem tup_eq {a a' b b' : Value} (h1 : a = a') (h2 : b = b') : Ending.returned (.tuple #[a, b]) = Ending.returned (.tuple #[a', b']) := by rw [h1, h2]

theorem idx2 (s : ByteArray) (j : Nat) (h : j + 1 < s.size) (hs : s.size ≤ 1048576 := by assumption) : (j : Int) < (s.size : Int) ∧ (j : Int) + 1 < (s.size : Int) ∧ IntKind.i64.wrap ((j : Int) + 1) = (j : Int) + 1 ∧ 0 ≤ (j : Int) + 1 ∧ ((j : Int) + 1).toNat = j + 1 := by
  refine ⟨by omega, by omega, ?_, by omega, by omega⟩
  rw [IntKind.wrap_i64]; omega

set_option maxHeartbeats 2000000 in
theorem specGetHex (s : ByteArray) (w : World) (hs : s.size ≤ 1048576) :
    Calls Tryz.prog 16 #[.string s] w fun e w' => e = .returned (.tuple #[.string (ghS s.data.toList), .bool (ghB s.data.toList)]) ∧ Below w.heap.size w w' := by
  go_enter Tryz.func16, Tryz.ntmps16
  go_wp2
  go_loopw [4, 5] (fun v i wr => GhRel s w v i wr) (fun _ i _ => s.size - (intOf i).toNat)
  case atStart => exact ⟨0, [], Nat.zero_le _, rfl, hexAt_zero _, Nat.le_refl _, own_empty w _ _, (Below.refl _ _).alloc (Nat.le_refl _) _⟩
  case round =>
    obtain ⟨j, pre, hj, rfl, hx, hpl, hown, hb⟩ := hrel
    have HX := Lib.hid hx
    clear hx
    by_cases hlt : j + 1 < s.size
    · have ra := hexV_range s[j]
      have rb := hexV_range s[j + 1]
      by_cases ha : hexV s[j] < 0
      · have HE := Lib.hid (hexAt_bad HX.out hlt (.inl ha))
        go_wp2_with fail
        obtain ⟨k1, k2, k3, k4, k5⟩ := idx2 s j hlt
        go_quiet ((go_at_call 64; exact Calls.quiet_of_same (specDigit _ _)))
        clear k3
        go_wp2_with fail
        go_ret2
        exact ⟨tup_eq (congrArg Value.string HE.out.1.symm) (congrArg Value.bool HE.out.2.symm), below_drewN hb _⟩
      · by_cases hb2 : hexV s[j + 1] < 0
        · have HE := Lib.hid (hexAt_bad HX.out hlt (.inr hb2))
          go_wp2_with fail
          obtain ⟨k1, k2, k3, k4, k5⟩ := idx2 s j hlt
          go_quiet ((go_at_call 64; exact Calls.quiet_of_same (specDigit _ _)))
          clear k3
          go_wp2_with fail
          go_ret2
          exact ⟨tup_eq (congrArg Value.string HE.out.1.symm) (congrArg Value.bool HE.out.2.symm), below_drewN hb _⟩
        · go_wp2_with fail
          obtain ⟨k1, k2, k3, k4, k5⟩ := idx2 s j hlt
          go_quiet ((go_at_call 64; exact Calls.quiet_of_same (specDigit _ _)))
          clear k3
          have hbq := below_drewN hb nq
          have hownq := own_drewN hown nq
          generalize wr.drewN nq = wq at *
          clear hb hown
          go_wp2_with (at_builtin; refine wpList_app rfl (.tmp 31) (.tmp 37) 22 rfl w.heap.size 5 Tryz.underlying22 infoU8 rfl (by decide) rfl (hownq.alloc _) (hbq.alloc hbq.size _) (Nat.le_trans hbq.size (by simp)) _ 1 1 _ rfl rfl (cells_new _ _ _) (one_u8 _) (by unfold maxLen; omega) (by omega) ?_; intro v' w' hown' hb' hB')
          go_roundw
          case rel => exact gh_next HX hlt (by omega) (by omega) rfl hown' hb'
          case measure => simp [intOf]; omega
    · by_cases he : j = s.size
      · have HE := Lib.hid (hexAt_end HX.out he)
        have he2 : ((s.size : Int) % 2 == 1) = false := by
          have := HX.out.1
          simp; omega
        have hcv := run_string_own (P := Tryz.prog) 22 9 5 Tryz.underlying22 Tryz.underlying5 Tryz.underlying9 hown
        clear hown he
        go_wp2
        go_ret2
        exact ⟨tup_eq (congrArg Value.string HE.out.1.symm) (congrArg Value.bool HE.out.2.symm), hb⟩
      · have HE := Lib.hid (hexAt_odd HX.out (by omega))
        have he2 : ((s.size : Int) % 2 == 1) = true := by
          have := HX.out.1
          simp; omega
        go_wp2
        go_ret2
        exact ⟨tup_eq (congrArg Value.string HE.out.1.symm) (congrArg Value.bool HE.out.2.symm), hb⟩

set_option maxHeartbeats 2000000 in
theorem implGetHex (s : ByteArray) (w : World) (hs : s.size ≤ 1048576) :
    Calls Tryz.prog 15 #[.string s] w fun e w' => e = .returned (.tuple #[.string (ghS s.data.toList), .bool (ghB s.data.toList)]) ∧ Below w.heap.size w w' := by
  by_cases hodd : s.size % 2 = 1
  · have HE := Lib.hid (hexRead_odd s hodd)
    have he2 : ((s.size : Int) % 2 == 1) = true := by simp; omega
    clear hodd
    go_enter Tryz.func15, Tryz.ntmps15
    go_wp2
    go_ret2
    exact ⟨tup_eq (congrArg Value.string HE.out.1.symm) (congrArg Value.bool HE.out.2.symm), Below.refl _ _⟩
  · have he2 : ((s.size : Int) % 2 == 1) = false := by simp; omega
    obtain ⟨i0, hi, hz0, hz1, hz2⟩ := info_parts infoU8
    have HO := Lib.hid hodd
    clear hodd
    go_enter Tryz.func15, Tryz.ntmps15
    go_wp2_with (at_make; refine wpList_make_own _ rfl _ _ 22 rfl w.heap.size 5 i0 (.int .u8 0) 1 Tryz.underlying22 hi hz0 hz1 _ _ _ (s.size / 2) rfl rfl (by omega) ?b1 ?b2 ?b3 ?_)
    case b1 => rw [hz2]; omega
    case b2 => unfold maxLen; omega
    case b3 => omega
    intro w1 hown1 hg1
    go_wp2
    go_loopw [4, 5] (fun v i wr => GhRel s w v i wr) (fun _ i _ => s.size - (intOf i).toNat)
    case atStart => exact ⟨0, [], Nat.zero_le _, rfl, hexAt_zero _, Nat.le_refl _, hown1, (Below.refl _ _).grown hg1 (Nat.le_refl _) (fun k h => by cases h)⟩
    case round =>
      obtain ⟨j, pre, hj, rfl, hx, hpl, hown, hb⟩ := hrel
      have HX := Lib.hid hx
      clear hx
      by_cases hlt : j < s.size
      · have hlt : j + 1 < s.size := by have := HX.out.1; have := HO.out; omega
        have ra := hexV_range s[j]
        have rb := hexV_range s[j + 1]
        by_cases ha : hexV s[j] < 0
        · have HE := Lib.hid (hexAt_bad HX.out hlt (.inl ha))
          go_wp2_with fail
          obtain ⟨k1, k2, k3, k4, k5⟩ := idx2 s j hlt
          go_quiet ((go_at_call 52; exact Calls.quiet_of_same (implDigit _ _)))
          clear k3
          go_wp2_with fail
          go_ret2
          exact ⟨tup_eq (congrArg Value.string HE.out.1.symm) (congrArg Value.bool HE.out.2.symm), below_drewN hb _⟩
        · by_cases hb2 : hexV s[j + 1] < 0
          · have HE := Lib.hid (hexAt_bad HX.out hlt (.inr hb2))
            go_wp2_with fail
            obtain ⟨k1, k2, k3, k4, k5⟩ := idx2 s j hlt
            go_quiet ((go_at_call 52; exact Calls.quiet_of_same (implDigit _ _)))
            clear k3
            go_wp2_with fail
            go_ret2
            exact ⟨tup_eq (congrArg Value.string HE.out.1.symm) (congrArg Value.bool HE.out.2.symm), below_drewN hb _⟩
          · go_wp2_with fail
            obtain ⟨k1, k2, k3, k4, k5⟩ := idx2 s j hlt
            go_quiet ((go_at_call 52; exact Calls.quiet_of_same (implDigit _ _)))
            clear k3
            have hbq := below_drewN hb nq
            have hownq := own_drewN hown nq
            have hor := hex_or s[j] s[j + 1] (by omega) (by omega)
            generalize wr.drewN nq = wq at *
            clear hb hown
            go_wp2_with (at_builtin; refine wpList_app rfl (.tmp 37) (.tmp 43) 22 rfl w.heap.size 5 Tryz.underlying22 infoU8 rfl (by decide) rfl (hownq.alloc _) (hbq.alloc hbq.size _) (Nat.le_trans hbq.size (by simp)) _ 1 1 _ rfl rfl (cells_new _ _ _) (one_u8 _) (by unfold maxLen; omega) (by omega) ?_; intro v' w' hown' hb' hB')
            go_roundw
            case rel => exact gh_next HX hlt (by omega) (by omega) rfl hown' hb'
            case measure => simp [intOf]; omega
      · have HE := Lib.hid (hexAt_end HX.out (by omega))
        have hcv := run_string_own (P := Tryz.prog) 22 9 5 Tryz.underlying22 Tryz.underlying5 Tryz.underlying9 hown
        clear hown
        go_wp2
        go_ret2
        exact ⟨tup_eq (congrArg Value.string HE.out.1.symm) (congrArg Value.bool HE.out.2.symm), hb⟩
end Go.Proofs.YtbfddabljkoapaaGreatDoor

/-
  What Unquote hands back is a text; bytes come back from their digits: plainly.
-/
namespace Go.Proofs.YtbfddabljkoapaaGreatDoor
open Go.RowKit
set_option linter.unusedVariables false
set_option linter.unusedSimpArgs false
set_option maxRecDepth 100000

theorem escAt_sig {s t : ByteArray} {i n : Nat} (h : escAt s i = some (t, n)) : ∃ m : Nat, isSg (m : Int) = true ∧ t = signB (m : Int) := by
  unfold escAt at h
  split at h
  · cases h
  · split at h
    · injection h with h
      injection h with h1 _
      have hl := longOf_lt (s.get! (i + 1)).toNat
      generalize longOf (s.get! (i + 1)).toNat = c at *
      refine ⟨c, by unfold isSg; simp; omega, ?_⟩
      rw [← h1]
      apply ba_ext
      rw [sig_one hl]
      rfl
    · split at h
      · split at h
        · split at h
          · rename_i h2 h3
            injection h with h
            injection h with h1 _
            have hp := pair_sg h2 h3.2.2.2
            obtain ⟨m, hm⟩ := Int.eq_ofNat_of_zero_le hp.2.1
            rw [hm] at hp h1
            exact ⟨m, hp.1, h1.symm⟩
          · cases h
        · split at h
          · rename_i h2
            injection h with h
            injection h with h1 _
            obtain ⟨m, hm⟩ := Int.eq_ofNat_of_zero_le (isSg_pos h2)
            rw [hm] at h2 h1
            exact ⟨m, h2, h1.symm⟩
          · cases h
      · cases h
/-- Signs, one behind the other. -/
def Sigs (l : List UInt8) : Prop := ∃ ns : List Nat, (∀ n ∈ ns, isSg (n : Int) = true) ∧ l = sigsTo ns
theorem Sigs.snoc {l : List UInt8} (h : Sigs l) {n : Nat} (hn : isSg (n : Int) = true) : Sigs (l ++ (signB (n : Int)).data.toList) := by
  obtain ⟨ns, h1, rfl⟩ := h
  refine ⟨ns ++ [n], fun m hm => ?_, ?_⟩
  · rcases List.mem_append.1 hm with hm | hm
    · exact h1 m hm
    · rw [List.mem_singleton.1 hm]; exact hn
  · unfold sigsTo
    rw [List.flatMap_append]
    simp
theorem unqG_sigs (s : ByteArray) : ∀ f i out t n, Sigs out → unqG s f i out = some (t, n) → Sigs t
  | 0, i, out, t, n, ho, h => by cases h
  | f + 1, i, out, t, n, ho, h => by
    unfold unqG at h
    split at h
    · cases h
    · rename_i hlt
      split at h
      · injection h with h
        injection h with h1 _
        rw [← h1]
        exact ho
      · split at h
        · cases he : escAt s i with
          | none => rw [he] at h; cases h
          | some p =>
            obtain ⟨tt, k⟩ := p
            rw [he] at h
            obtain ⟨m, hm, htt⟩ := escAt_sig he
            have h : unqG s f k (out ++ tt.data.toList) = some (t, n) := h
            rw [htt] at h
            exact unqG_sigs s f _ _ t n (ho.snoc hm) h
        · split at h
          · rename_i hok
            have hsg := sg_of_ok (by omega) hok.1
            have hp := (sign_piece (s := s) (i := i) (by omega) hok.1).2
            rw [← hp] at h
            exact unqG_sigs s f _ _ t n (ho.snoc hsg.1) h
          · cases h
theorem rest_sigs : ∀ (ns : List Nat) (pre : List UInt8), (∀ n ∈ ns, isSg (n : Int) = true) → restF (str (pre ++ sigsTo ns)) pre.length = some ns
  | [], pre, _ => by
    apply restF_end
    rw [str_len]
    simp [sigsTo]
  | n :: ns, pre, h => by
    have hn := h n List.mem_cons_self
    have hne : (signB (n : Int)).size ≠ 0 := fun h0 => absurd ((signB_zero _).1 h0) (by rw [hn]; decide)
    have e : pre ++ sigsTo (n :: ns) = (pre ++ (signB (n : Int)).data.toList) ++ sigsTo ns := by
      unfold sigsTo
      rw [List.flatMap_cons, List.append_assoc]
    have ih := rest_sigs ns (pre ++ (signB (n : Int)).data.toList) (fun m hm => h m (List.mem_cons_of_mem _ hm))
    rw [← e] at ih
    have hsz : (str (pre ++ sigsTo (n :: ns))).size = pre.length + (signB (n : Int)).size + (sigsTo ns).length := by
      rw [str_len, e, List.length_append, List.length_append, ← Lib.size_eq]
    have hd : (str (pre ++ sigsTo (n :: ns))).data.toList.drop pre.length = (signB (n : Int)).data.toList ++ sigsTo ns := by
      show (pre ++ sigsTo (n :: ns)).drop pre.length = _
      rw [e, List.append_assoc, List.drop_left']
      rfl
    have hpp := piece_drop hd
    rw [← Lib.size_eq] at hpp
    have hga := gs_at (s := str (pre ++ sigsTo (n :: ns))) (i := pre.length) hn (by omega) hpp
    rw [List.length_append, ← Lib.size_eq] at ih
    rw [restF_ok _ _ (by omega) hga.1]
    have key : ∀ d : Nat × Nat, d = (n, (signB (n : Int)).size) → (restF (str (pre ++ sigsTo (n :: ns))) (pre.length + d.2)).map (d.1 :: ·) = some (n :: ns) := fun d hd => by
      have h1 : d.1 = n := by rw [hd]
      have h2 : d.2 = (signB (n : Int)).size := by rw [hd]
      rw [h1, h2, ih]
      rfl
    exact key _ hga.2
theorem sigs_ok {l : List UInt8} (h : Sigs l) : textOk (str l) = true := by
  obtain ⟨ns, h1, rfl⟩ := h
  have := rest_sigs ns [] h1
  unfold textOk
  rw [List.nil_append] at this
  show (restF (str (sigsTo ns)) 0).isSome = true
  have h2 : restF (str (sigsTo ns)) 0 = some ns := this
  rw [h2]
  rfl
theorem unq_ok {s : ByteArray} {i : Int} (h : 0 ≤ unqE s i) : textOk (unqB s i) = true := by
  cases hp : unqP s i with
  | none => rw [(unq_no hp).2] at h; omega
  | some p =>
    obtain ⟨t, n⟩ := p
    rw [(unq_some hp).1]
    unfold unqP at hp
    split at hp
    · exact sigs_ok (unqG_sigs s _ _ [] t n ⟨[], fun n hn => (by cases hn), rfl⟩ hp)
    · cases hp
theorem hexD_byte (n : Nat) (h : n < 16) : hexV (hexD n) = (n : Int) := by
  have : ∀ m : Fin 16, hexV (hexD m.val) = (m.val : Int) := by decide
  exact this ⟨n, h⟩
theorem hex_back : ∀ l : List UInt8, hexRead (hexOf l) = some l
  | [] => rfl
  | b :: l => by
    have hb := b.toNat_lt
    show hexRead (hexD (b.toNat / 16) :: hexD (b.toNat % 16) :: hexOf l) = _
    have h1 := hexD_byte (b.toNat / 16) (by omega)
    have h2 := hexD_byte (b.toNat % 16) (by omega)
    unfold hexRead
    rw [if_neg (by omega), hex_back l]
    unfold hexB
    rw [h1, h2]
    have e : UInt8.ofNat (16 * ((b.toNat / 16 : Nat) : Int) + ((b.toNat % 16 : Nat) : Int)).toNat = b := by
      apply UInt8.toNat_inj.1
      rw [UInt8.toNat_ofNat']
      omega
    rw [e]
    rfl
theorem hexV_back (c : UInt8) (h : ¬ hexV c < 0) : hexD (hexV c).toNat = c ∧ hexV c ≤ 15 := by
  have : ∀ m : Fin 256, ¬ hexV (UInt8.ofNat m.val) < 0 → hexD (hexV (UInt8.ofNat m.val)).toNat = UInt8.ofNat m.val ∧ hexV (UInt8.ofNat m.val) ≤ 15 := by decide +kernel
  have h2 := this ⟨c.toNat, c.toNat_lt⟩
  simp only [UInt8.ofNat_toNat] at h2
  exact h2 h
theorem hex_forth : ∀ (g b : List UInt8), hexRead g = some b → hexOf b = g
  | [], b, h => by
    injection h with h
    subst h; rfl
  | [_], b, h => by cases h
  | x :: y :: g, b, h => by
    unfold hexRead at h
    split at h
    · cases h
    · rename_i hn
      cases hr : hexRead g with
      | none => rw [hr] at h; cases h
      | some r =>
        rw [hr] at h
        injection h with h
        subst h
        have hx := hexV_back x (by omega)
        have hy := hexV_back y (by omega)
        have ih := hex_forth g r hr
        show hexD ((hexB x y).toNat / 16) :: hexD ((hexB x y).toNat % 16) :: hexOf r = _
        have e : (hexB x y).toNat = (16 * hexV x + hexV y).toNat := by
          unfold hexB
          rw [UInt8.toNat_ofNat']
          omega
        have e1 : (hexB x y).toNat / 16 = (hexV x).toNat := by rw [e]; omega
        have e2 : (hexB x y).toNat % 16 = (hexV y).toNat := by rw [e]; omega
        rw [e1, e2, hx.1, hy.1, ih]
theorem gh_back (h : ByteArray) : ghS (str (hexOf h.data.toList)).data.toList = h ∧ ghB (str (hexOf h.data.toList)).data.toList = true := by
  have e : (str (hexOf h.data.toList)).data.toList = hexOf h.data.toList := rfl
  rw [e]
  unfold ghS ghB
  rw [hex_back]
  exact ⟨rfl, rfl⟩
theorem gh_forth {g : ByteArray} (h : ghB g.data.toList = true) : str (hexOf (ghS g.data.toList).data.toList) = g := by
  unfold ghB at h
  unfold ghS
  cases hr : hexRead g.data.toList with
  | none => rw [hr] at h; cases h
  | some b =>
    show str (hexOf b) = g
    rw [hex_forth _ _ hr]
    rfl
end Go.Proofs.YtbfddabljkoapaaGreatDoor

/-
  A slice of one-cell elements, wherever it lies; slices of numbers, texts and bytes that came in.
-/
namespace Go.Proofs.YtbfddabljkoapaaGreatDoor
open Go.RowKit Go.ChangeShapes Go.WideShapes
set_option linter.unusedVariables false
set_option maxRecDepth 100000

/-- The cells of a slice. -/
def At1 (w : World) (hi : Nat) (A : Option Addr) (xs : List Value) : Prop := xs = [] ∨ ∃ b off, A = some ⟨b, off, none⟩ ∧ b < hi ∧ ∀ j (h : j < xs.length), w.cell? ⟨b, off + j, none⟩ = some xs[j]
theorem At1.below {w w' : World} {hi B : Nat} {A : Option Addr} {xs : List Value} (h : At1 w hi A xs) (hb : Below B w w') (hB : hi ≤ B) : At1 w' hi A xs := by
  rcases h with h | ⟨b, off, h1, h2, h3⟩
  · exact .inl h
  · exact .inr ⟨b, off, h1, h2, fun j hj => (hb.cell (p := ⟨b, off + j, none⟩) (Nat.lt_of_lt_of_le h2 hB)).trans (h3 j hj)⟩
theorem At1.get {w : World} {hi : Nat} {A : Option Addr} {xs : List Value} (h : At1 w hi A xs) {j : Nat} (hj : j < xs.length) : ∃ b off, A = some ⟨b, off, none⟩ ∧ b < hi ∧ w.cell? ⟨b, off + j, none⟩ = some xs[j] := by
  rcases h with rfl | ⟨b, off, h1, h2, h3⟩
  · cases hj
  · exact ⟨b, off, h1, h2, h3 j hj⟩
theorem At1.own {w : World} {base c : Nat} {A : Option Addr} {e : TypeId} {n : Nat} {xs : List Value} (h : w.ownsRow base e 1 (.slice A n c) n xs) : At1 w w.heap.size A xs := by
  have hl := h.1
  rcases h.2 with ⟨h1, h0⟩ | ⟨g, c', cur, h1, h2⟩
  · exact .inl (List.eq_nil_of_length_eq_zero (by omega))
  · cases h1
    refine .inr ⟨g, 0, rfl, (h.lt g rfl).2, fun j hj => ?_⟩
    rw [Nat.zero_add, h.cellAt j (by omega), List.getElem?_eq_getElem hj]
theorem At1.more {w : World} {hi hi' : Nat} {A : Option Addr} {xs : List Value} (h : At1 w hi A xs) (hh : hi ≤ hi') : At1 w hi' A xs := by
  rcases h with h | ⟨b, off, h1, h2, h3⟩
  · exact .inl h
  · exact .inr ⟨b, off, h1, Nat.lt_of_lt_of_le h2 hh, h3⟩

section
variable {H : Type} {enc : TypeId × Value → H} {W : World} {sp : Nat → Bool} {held : Bool}
/-- A slice of integers that came in. -/
theorem open_kind {t e : TypeId} {k : IntKind} (ht : Tryz.prog.underlying t = some (.slice e)) (he : Tryz.prog.underlying e = some (.int k)) (hc : Tryz.prog.cellsOf e = 1) {v : Value} {d : DataW H} {p : List MemPlace} {r : Reach} {b0 : Nat}
    (hv : Value.okWide Tryz.prog W r b0 t v) (h : DataW.Trod enc Tryz.prog W 0 sp held t v d p) :
    ∃ (l : List Int) (A : Option Addr) (cap : Nat), v = .slice A l.length cap ∧ l.length ≤ maxLen ∧ (∀ z ∈ l, (Lit.int k z).wf = true) ∧ At1 W W.heap.size A (l.map (Value.int k)) := by
  obtain ⟨a1, len, cap, rfl⟩ := okWide_slice ht hv
  obtain ⟨fuel, hf⟩ := h
  rcases open_ints ht he hc hf with ⟨hcs, _⟩ | ⟨a, len', cap', zs, hcs, _, hl, hm, hz, _, hcell, hwz⟩
  · simp [Value.cells] at hcs
    obtain ⟨rfl, rfl, rfl⟩ := hcs
    exact ⟨[], none, 0, rfl, Nat.zero_le _, (fun z hz => by cases hz), .inl rfl⟩
  · simp [Value.cells] at hcs
    obtain ⟨rfl, rfl, rfl⟩ := hcs
    have hzl : len ≤ zs.length := by rw [hz]; split <;> omega
    have hll : (zs.take len).length = len := by rw [List.length_take]; omega
    refine ⟨zs.take len, some a, cap, by rw [hll], by rw [hll]; unfold maxLen at *; omega, fun z hz => hwz z (List.mem_of_mem_take hz), ?_⟩
    by_cases h0 : len = 0
    · refine .inl ?_
      rw [h0]; rfl
    · have hc0 := hcell 0 (by omega)
      obtain ⟨b, off, spot⟩ := a
      have hspot : spot = none := by
        have e : ((⟨b, off, spot⟩ : Addr).add 0) = ⟨b, off, spot⟩ := by simp [Addr.add]
        rw [e] at hc0
        exact World.cell?_spot hc0
      subst hspot
      refine .inr ⟨b, off, rfl, World.block_lt_of_cell? W _ hc0, fun j hj => ?_⟩
      rw [List.length_map, hll] at hj
      have h1 := hcell j (by omega)
      rw [Addr.add_lit] at h1
      rw [h1]
      simp [List.getD, List.getElem?_eq_getElem (show j < zs.length by omega)]
/-- A slice of texts that came in. -/
theorem open_row {t e : TypeId} (ht : Tryz.prog.underlying t = some (.slice e)) (he : Tryz.prog.underlying e = some .string) (hc : Tryz.prog.cellsOf e = 1) {v : Value} {d : DataW H} {p : List MemPlace} {r : Reach} {b0 : Nat}
    (hv : Value.okWide Tryz.prog W r b0 t v) (h : DataW.Trod enc Tryz.prog W 0 sp held t v d p) :
    ∃ (l : List ByteArray) (A : Option Addr) (cap : Nat), v = .slice A l.length cap ∧ l.length ≤ maxLen ∧ (∀ s ∈ l, s.size ≤ maxLen) ∧ At1 W W.heap.size A (l.map Value.string) := by
  obtain ⟨a1, len, cap, rfl⟩ := okWide_slice ht hv
  obtain ⟨fuel, hf⟩ := h
  rcases open_strings ht he hc hf with ⟨hcs, _⟩ | ⟨a, len', cap', zs, hcs, _, hl, hm, hz, _, hcell, hwz⟩
  · simp [Value.cells] at hcs
    obtain ⟨rfl, rfl, rfl⟩ := hcs
    exact ⟨[], none, 0, rfl, Nat.zero_le _, (fun z hz => by cases hz), .inl rfl⟩
  · simp [Value.cells] at hcs
    obtain ⟨rfl, rfl, rfl⟩ := hcs
    have hzl : len ≤ zs.length := by rw [hz]; split <;> omega
    have hll : (zs.take len).length = len := by rw [List.length_take]; omega
    refine ⟨zs.take len, some a, cap, by rw [hll], by rw [hll]; unfold maxLen at *; omega, fun z hz => hwz z (List.mem_of_mem_take hz), ?_⟩
    by_cases h0 : len = 0
    · refine .inl ?_
      rw [h0]; rfl
    · have hc0 := hcell 0 (by omega)
      obtain ⟨b, off, spot⟩ := a
      have hspot : spot = none := by
        have e : ((⟨b, off, spot⟩ : Addr).add 0) = ⟨b, off, spot⟩ := by simp [Addr.add]
        rw [e] at hc0
        exact World.cell?_spot hc0
      subst hspot
      refine .inr ⟨b, off, rfl, World.block_lt_of_cell? W _ hc0, fun j hj => ?_⟩
      rw [List.length_map, hll] at hj
      have h1 := hcell j (by omega)
      rw [Addr.add_lit] at h1
      rw [h1]
      simp [List.getD, List.getElem?_eq_getElem (show j < zs.length by omega)]
end
end Go.Proofs.YtbfddabljkoapaaGreatDoor

/-
  Values as trees, plainly; how a tree lies in memory; how an argument is read as one.
-/
namespace Go.Proofs.YtbfddabljkoapaaGreatDoor
open Go.RowKit Go.ChangeShapes Go.WideShapes Go.Deep
set_option linter.unusedVariables false

theorem ret_num {k : IntKind} {a b : Int} (h : a = b) : Ending.returned (.int k a) = Ending.returned (.int k b) := by rw [h]
theorem ret_bool {a b : Bool} (h : a = b) : Ending.returned (.bool a) = Ending.returned (.bool b) := by rw [h]
/-- Block g holds just these cells, none frozen. -/
def Blk (w : World) (g : Nat) (t : TypeId) (cs : Array Value) : Prop := w.heap[g]? = some (.cells cs t (0, 0))
theorem Blk.new (w : World) (t : TypeId) (cs : Array Value) : Blk (w.alloc (.cells cs t)) w.heap.size t cs := heap_alloc_new w _
theorem Blk.lt {w : World} {g : Nat} {t : TypeId} {cs : Array Value} (h : Blk w g t cs) : g < w.heap.size := by
  rcases Nat.lt_or_ge g w.heap.size with hlt | hge
  · exact hlt
  · unfold Blk at h; rw [Array.getElem?_eq_none hge] at h; cases h
theorem Blk.alloc {w : World} {g : Nat} {t : TypeId} {cs : Array Value} (h : Blk w g t cs) (o : Obj) : Blk (w.alloc o) g t cs := (Below.heap_alloc w o g h.lt).trans h
theorem Blk.below {w w' : World} {B g : Nat} {t : TypeId} {cs : Array Value} (h : Blk w g t cs) (hb : Below B w w') (hg : g < B) : Blk w' g t cs := (hb.block g hg).trans h
theorem Blk.cell {w : World} {g : Nat} {t : TypeId} {cs : Array Value} (h : Blk w g t cs) (i : Nat) : w.cell? ⟨g, i, none⟩ = cs[i]? := cell_of_row w g i cs t (0, 0) h
theorem Blk.frozen {w : World} {g : Nat} {t : TypeId} {cs : Array Value} (h : Blk w g t cs) (i : Nat) : w.frozen? ⟨g, i, none⟩ = false := by
  unfold Blk at h
  simp [World.frozen?, h]
inductive V where
  | mk (k n e : Int) (s : ByteArray) (kids : List V)
def V.k : V → Int | .mk k _ _ _ _ => k
def V.n : V → Int | .mk _ n _ _ _ => n
def V.e : V → Int | .mk _ _ e _ _ => e
def V.s : V → ByteArray | .mk _ _ _ s _ => s
def V.kids : V → List V | .mk _ _ _ _ ks => ks
theorem V.eta (v : V) : v = .mk v.k v.n v.e v.s v.kids := by cases v; rfl

/-- The five cells of a value; its kids' slice is A, with room for cap. -/
def V.agg (v : V) (A : Option Addr) (cap : Nat) : Value := .agg #[.int .i64 v.k, .int .i64 v.n, .int .i64 v.e, .string v.s, .slice A v.kids.length cap]
def CellsAt (w : World) (b off : Nat) (v : V) (A : Option Addr) (cap : Nat) : Prop :=
  w.cell? ⟨b, off, none⟩ = some (.int .i64 v.k) ∧ w.cell? ⟨b, off + 1, none⟩ = some (.int .i64 v.n) ∧ w.cell? ⟨b, off + 2, none⟩ = some (.int .i64 v.e) ∧
  w.cell? ⟨b, off + 3, none⟩ = some (.string v.s) ∧ w.cell? ⟨b, off + 4, none⟩ = some (.slice A v.kids.length cap)

mutual
/-- The kids of a value lie at A, in blocks from lo to hi. -/
def V.at_ (w : World) (lo hi : Nat) : V → Option Addr → Prop
  | .mk _ _ _ _ ks, A => Vs.at_ w lo hi ks A
def Vs.at_ (w : World) (lo hi : Nat) : List V → Option Addr → Prop
  | [], _ => True
  | v :: r, A => (∃ b off A' cap, A = some ⟨b, off, none⟩ ∧ lo ≤ b ∧ b < hi ∧ v.kids.length ≤ cap ∧ CellsAt w b off v A' cap ∧ V.at_ w lo hi v A' ∧ Vs.at_ w lo hi r (some ⟨b, off + 5, none⟩))
end

theorem V.at_kids {w : World} {lo hi : Nat} {v : V} {A : Option Addr} : V.at_ w lo hi v A ↔ Vs.at_ w lo hi v.kids A := by
  cases v; simp [V.at_, V.kids]

mutual
theorem V.at_keep {w w' : World} {lo hi : Nat} (hk : ∀ p : Addr, lo ≤ p.block → p.block < hi → w'.cell? p = w.cell? p) : ∀ (v : V) (A : Option Addr), V.at_ w lo hi v A → V.at_ w' lo hi v A
  | .mk _ _ _ _ ks, A, h => by
    simp only [V.at_] at h ⊢
    exact Vs.at_keep hk ks A h
theorem Vs.at_keep {w w' : World} {lo hi : Nat} (hk : ∀ p : Addr, lo ≤ p.block → p.block < hi → w'.cell? p = w.cell? p) : ∀ (l : List V) (A : Option Addr), Vs.at_ w lo hi l A → Vs.at_ w' lo hi l A
  | [], A, _ => by simp only [Vs.at_]
  | v :: r, A, h => by
    simp only [Vs.at_] at h ⊢
    obtain ⟨b, off, A', cap, rfl, h1, h2, h3, ⟨c0, c1, c2, c3, c4⟩, h5, h6⟩ := h
    have k := fun j => hk ⟨b, j, none⟩ h1 h2
    exact ⟨b, off, A', cap, rfl, h1, h2, h3, ⟨(k _).trans c0, (k _).trans c1, (k _).trans c2, (k _).trans c3, (k _).trans c4⟩, V.at_keep hk v A' h5, Vs.at_keep hk r _ h6⟩
end
mutual
theorem V.at_more {w : World} {lo hi lo' hi' : Nat} (h1 : lo' ≤ lo) (h2 : hi ≤ hi') : ∀ (v : V) (A : Option Addr), V.at_ w lo hi v A → V.at_ w lo' hi' v A
  | .mk _ _ _ _ ks, A, h => by
    simp only [V.at_] at h ⊢
    exact Vs.at_more h1 h2 ks A h
theorem Vs.at_more {w : World} {lo hi lo' hi' : Nat} (h1 : lo' ≤ lo) (h2 : hi ≤ hi') : ∀ (l : List V) (A : Option Addr), Vs.at_ w lo hi l A → Vs.at_ w lo' hi' l A
  | [], A, _ => by simp only [Vs.at_]
  | v :: r, A, h => by
    simp only [Vs.at_] at h ⊢
    obtain ⟨b, off, A', cap, rfl, g1, g2, h3, h4, h5, h6⟩ := h
    exact ⟨b, off, A', cap, rfl, Nat.le_trans h1 g1, Nat.lt_of_lt_of_le g2 h2, h3, h4, V.at_more h1 h2 v A' h5, Vs.at_more h1 h2 r _ h6⟩
end
theorem Vs.at_below {w w' : World} {lo hi B : Nat} {l : List V} {A : Option Addr} (h : Vs.at_ w lo hi l A) (hb : Below B w w') (hB : hi ≤ B) : Vs.at_ w' lo hi l A :=
  Vs.at_keep (fun _ _ hp => hb.cell (Nat.lt_of_lt_of_le hp hB)) l A h
/-- Kids are where they were, behind a new block. -/
theorem Vs.at_alloc {w : World} {lo hi : Nat} {l : List V} {A : Option Addr} (h : Vs.at_ w lo hi l A) (hh : hi ≤ w.heap.size) (o : Obj) : Vs.at_ (w.alloc o) lo hi l A :=
  Vs.at_keep (fun p _ hp => World.cell?_alloc_lt _ _ _ (by omega)) _ _ h
theorem Vs.at_drew {w : World} {lo hi : Nat} {l : List V} {A : Option Addr} (h : Vs.at_ w lo hi l A) : Vs.at_ w.drew lo hi l A :=
  Vs.at_keep (w := w) (w' := w.drew) (fun p _ _ => rfl) _ _ h
theorem Vs.at_set {w : World} {lo hi : Nat} {l : List V} {A : Option Addr} {p : Addr} {u : Value} (h : Vs.at_ w lo hi l A) (hp : p.block < lo ∨ hi ≤ p.block) : Vs.at_ (w.setCell p u) lo hi l A :=
  Vs.at_keep (fun q h1 h2 => World.cell?_setCell_other w p q u (fun e => by subst e; omega)) l A h
/-- Element i of a slice of values. -/
theorem Vs.at_get {w : World} {lo hi : Nat} : ∀ {l : List V} {A : Option Addr} (i : Nat) (hi' : i < l.length), Vs.at_ w lo hi l A →
    ∃ b off A' cap, A = some ⟨b, off, none⟩ ∧ lo ≤ b ∧ b < hi ∧ (l[i]).kids.length ≤ cap ∧ CellsAt w b (off + i * 5) l[i] A' cap ∧ Vs.at_ w lo hi (l[i]).kids A'
  | v :: r, A, 0, _, h => by
    simp only [Vs.at_] at h
    obtain ⟨b, off, A', cap, rfl, h1, h2, h3, h4, h5, h6⟩ := h
    exact ⟨b, off, A', cap, rfl, h1, h2, h3, by simpa using h4, V.at_kids.1 h5⟩
  | v :: r, A, i + 1, hi', h => by
    simp only [Vs.at_] at h
    obtain ⟨b, off, A', cap, rfl, h1, h2, h3, h4, h5, h6⟩ := h
    obtain ⟨b', off', A'', cap', e, g1, g2, g3, g4, g5⟩ := Vs.at_get i (by simpa using hi') h6
    injection e with e
    injection e with e1 e2
    subst e1 e2
    refine ⟨b, off, A'', cap', rfl, g1, g2, by simpa using g3, ?_, by simpa using g5⟩
    have : off + 5 + i * 5 = off + (i + 1) * 5 := by omega
    rw [this] at g4
    simpa using g4

mutual
/-- How many values there are in a value. -/
def V.nodes : V → Nat
  | .mk _ _ _ _ ks => Vs.nodes ks + 1
def Vs.nodes : List V → Nat
  | [] => 0
  | v :: r => v.nodes + Vs.nodes r
end
mutual
/-- What the laws' own measure takes off: letters, and one for each kid. -/
def V.weight : V → Nat
  | .mk _ _ _ s ks => s.size + Vs.weight ks
def Vs.weight : List V → Nat
  | [] => 0
  | v :: r => v.weight + 1 + Vs.weight r
end
/-- A number of 64 bits. -/
def inI (x : Int) : Prop := -9223372036854775808 ≤ x ∧ x ≤ 9223372036854775807
mutual
/-- Every length is one that Go can count, every number one of 64 bits. -/
def V.fits : V → Prop
  | .mk k n e s ks => s.size ≤ 9223372036854775807 ∧ ks.length ≤ 9223372036854775807 ∧ Vs.fits ks ∧ inI k ∧ inI n ∧ inI e
def Vs.fits : List V → Prop
  | [] => True
  | v :: r => v.fits ∧ Vs.fits r
end
theorem V.nodes_eq (v : V) : v.nodes = Vs.nodes v.kids + 1 := by cases v; simp [V.nodes, V.kids]
theorem V.weight_eq (v : V) : v.weight = v.s.size + Vs.weight v.kids := by cases v; simp [V.weight, V.kids, V.s]
theorem V.fits_eq (v : V) : v.fits ↔ v.s.size ≤ 9223372036854775807 ∧ v.kids.length ≤ 9223372036854775807 ∧ Vs.fits v.kids ∧ inI v.k ∧ inI v.n ∧ inI v.e := by cases v; simp [V.fits, V.kids, V.s, V.k, V.n, V.e]
theorem Vs.fits_get : ∀ {l : List V} (i : Nat) (h : i < l.length), Vs.fits l → (l[i]).fits
  | v :: r, 0, _, h => by simp only [Vs.fits] at h; exact h.1
  | v :: r, i + 1, hi, h => by simp only [Vs.fits] at h; exact Vs.fits_get i (by simpa using hi) h.2
theorem Vs.nodes_get : ∀ {l : List V} (i : Nat) (h : i < l.length), (l[i]).nodes ≤ Vs.nodes l
  | v :: r, 0, _ => by simp only [Vs.nodes, List.getElem_cons_zero]; omega
  | v :: r, i + 1, hi => by
    have := Vs.nodes_get (l := r) i (by simpa using hi)
    simp only [Vs.nodes, List.getElem_cons_succ]; omega
theorem V.nodes_pos (v : V) : 1 ≤ v.nodes := by rw [V.nodes_eq]; omega
theorem Vs.weight_snoc (l : List V) (v : V) : Vs.weight (l ++ [v]) = Vs.weight l + v.weight + 1 := by
  induction l with
  | nil => simp [Vs.weight]
  | cons a l ih => simp only [List.cons_append, Vs.weight, ih]; omega
theorem Vs.weight_take (l : List V) : ∀ i, Vs.weight (l.take i) + Vs.weight (l.drop i) = Vs.weight l := by
  induction l with
  | nil => intro i; simp [Vs.weight]
  | cons a l ih =>
    intro i
    cases i with
    | zero => simp [Vs.weight]
    | succ i => simp only [List.take_succ_cons, List.drop_succ_cons, Vs.weight]; have := ih i; omega
theorem Vs.weight_step (l : List V) (i : Nat) (h : i < l.length) : Vs.weight (l.take (i + 1)) = Vs.weight (l.take i) + (l[i]).weight + 1 := by
  rw [List.take_succ_eq_append_getElem h, Vs.weight_snoc]
theorem Vs.len_le (l : List V) : l.length ≤ Vs.weight l := by
  induction l with
  | nil => simp
  | cons a l ih => simp only [List.length_cons, Vs.weight]; omega
theorem Vs.weight_len (l : List V) (i : Nat) : Vs.weight (l.take i) + (l.length - i) ≤ Vs.weight l := by
  have h1 := Vs.weight_take l i
  have h2 := Vs.len_le (l.drop i)
  rw [List.length_drop] at h2
  omega
theorem Vs.len_nodes (l : List V) : l.length ≤ Vs.nodes l := by
  induction l with
  | nil => simp
  | cons a l ih => simp only [List.length_cons, Vs.nodes]; have := V.nodes_pos a; omega
/-- What is left of a measure, -1 if it doesn't suffice. -/
def szR (L : Int) (W : Nat) : Int := if (W : Int) ≤ L then L - W else -1

/-- A slice of values, out of its elements. -/
theorem Vs.at_of {w : World} {lo hi b : Nat} (h1 : lo ≤ b) (h2 : b < hi) : ∀ (l : List V) (off : Nat),
    (∀ i (h : i < l.length), ∃ A' cap, (l[i]).kids.length ≤ cap ∧ CellsAt w b (off + i * 5) l[i] A' cap ∧ Vs.at_ w lo hi (l[i]).kids A') → Vs.at_ w lo hi l (some ⟨b, off, none⟩)
  | [], _, _ => by simp only [Vs.at_]
  | v :: r, off, h => by
    simp only [Vs.at_]
    obtain ⟨A', cap, k1, k2, k3⟩ := h 0 (by simp)
    refine ⟨b, off, A', cap, rfl, h1, h2, by simpa using k1, by simpa using k2, V.at_kids.2 (by simpa using k3), Vs.at_of h1 h2 r (off + 5) fun i hi => ?_⟩
    obtain ⟨A', cap, k1, k2, k3⟩ := h (i + 1) (by simpa using hi)
    refine ⟨A', cap, by simpa using k1, ?_, by simpa using k3⟩
    rw [show off + 5 + i * 5 = off + (i + 1) * 5 by omega]
    simpa using k2
/-- A value stored into five cells. -/
def put5 (w : World) (G o : Nat) (v : V) (A : Option Addr) (c : Nat) : World :=
  ((((w.setCell ⟨G, o, none⟩ (.int .i64 v.k)).setCell ⟨G, o + 1, none⟩ (.int .i64 v.n)).setCell ⟨G, o + 2, none⟩ (.int .i64 v.e)).setCell ⟨G, o + 3, none⟩ (.string v.s)).setCell ⟨G, o + 4, none⟩ (.slice A v.kids.length c)
theorem addr_ne {G q : Nat} {p : Addr} (h : p.block ≠ G ∨ p.off ≠ q) : (⟨G, q, none⟩ : Addr) ≠ p := by
  rintro rfl
  rcases h with h | h <;> exact h rfl
theorem put5_other {w : World} {G o : Nat} {v : V} {A : Option Addr} {c : Nat} {p : Addr} (h : p.block ≠ G ∨ p.off < o ∨ o + 5 ≤ p.off) : (put5 w G o v A c).cell? p = w.cell? p := by
  unfold put5
  rw [World.cell?_setCell_other _ _ _ _ (addr_ne (G := G) (q := o + 4) (by omega)), World.cell?_setCell_other _ _ _ _ (addr_ne (G := G) (q := o + 3) (by omega)), World.cell?_setCell_other _ _ _ _ (addr_ne (G := G) (q := o + 2) (by omega)), World.cell?_setCell_other _ _ _ _ (addr_ne (G := G) (q := o + 1) (by omega)), World.cell?_setCell_other _ _ _ _ (addr_ne (G := G) (q := o) (by omega))]
theorem put5_at {w : World} {G o : Nat} {v : V} {A : Option Addr} {c : Nat} {u0 u1 u2 u3 u4 : Value} (h0 : w.cell? ⟨G, o, none⟩ = some u0) (h1 : w.cell? ⟨G, o + 1, none⟩ = some u1) (h2 : w.cell? ⟨G, o + 2, none⟩ = some u2)
    (h3 : w.cell? ⟨G, o + 3, none⟩ = some u3) (h4 : w.cell? ⟨G, o + 4, none⟩ = some u4) : CellsAt (put5 w G o v A c) G o v A c := by
  have ne : ∀ {a b : Nat}, a ≠ b → (⟨G, a, none⟩ : Addr) ≠ ⟨G, b, none⟩ := fun h e => h (by injection e)
  unfold put5
  refine ⟨?_, ?_, ?_, ?_, ?_⟩
  · rw [World.cell?_setCell_other _ _ _ _ (ne (by omega)), World.cell?_setCell_other _ _ _ _ (ne (by omega)), World.cell?_setCell_other _ _ _ _ (ne (by omega)), World.cell?_setCell_other _ _ _ _ (ne (by omega))]
    exact World.cell?_setCell_same _ _ _ h0
  · rw [World.cell?_setCell_other _ _ _ _ (ne (by omega)), World.cell?_setCell_other _ _ _ _ (ne (by omega)), World.cell?_setCell_other _ _ _ _ (ne (by omega))]
    exact World.cell?_setCell_same _ _ _ ((World.cell?_setCell_other _ _ _ _ (ne (by omega))).trans h1)
  · rw [World.cell?_setCell_other _ _ _ _ (ne (by omega)), World.cell?_setCell_other _ _ _ _ (ne (by omega))]
    exact World.cell?_setCell_same _ _ _ ((World.cell?_setCell_other _ _ _ _ (ne (by omega))).trans ((World.cell?_setCell_other _ _ _ _ (ne (by omega))).trans h2))
  · rw [World.cell?_setCell_other _ _ _ _ (ne (by omega))]
    exact World.cell?_setCell_same _ _ _ ((World.cell?_setCell_other _ _ _ _ (ne (by omega))).trans ((World.cell?_setCell_other _ _ _ _ (ne (by omega))).trans ((World.cell?_setCell_other _ _ _ _ (ne (by omega))).trans h3)))
  · exact World.cell?_setCell_same _ _ _ ((World.cell?_setCell_other _ _ _ _ (ne (by omega))).trans ((World.cell?_setCell_other _ _ _ _ (ne (by omega))).trans ((World.cell?_setCell_other _ _ _ _ (ne (by omega))).trans ((World.cell?_setCell_other _ _ _ _ (ne (by omega))).trans h4))))
theorem put5_size (w : World) (G o : Nat) (v : V) (A : Option Addr) (c : Nat) : (put5 w G o v A c).heap.size = w.heap.size := by simp [put5]
theorem put5_own {w : World} {G o base n cap : Nat} {e : TypeId} {v : V} {A : Option Addr} {c : Nat} {xs : List Value} (h : w.ownsRow base e 5 (.slice (some ⟨G, 0, none⟩) n cap) n xs) : ∃ xs', (put5 w G o v A c).ownsRow base e 5 (.slice (some ⟨G, 0, none⟩) n cap) n xs' :=
  ⟨_, ((((((h.stored o _).1.stored (o + 1) _).1.stored (o + 2) _).1.stored (o + 3) _).1.stored (o + 4) _).1)⟩
theorem put5_below {a w : World} {B G o : Nat} {v : V} {A : Option Addr} {c : Nat} (h : Below B a w) (hG : B ≤ G) : Below B a (put5 w G o v A c) :=
  ((((h.setCell (p := ⟨G, o, none⟩) hG _).setCell (p := ⟨G, o + 1, none⟩) hG _).setCell (p := ⟨G, o + 2, none⟩) hG _).setCell (p := ⟨G, o + 3, none⟩) hG _).setCell (p := ⟨G, o + 4, none⟩) hG _
theorem CellsAt.keep {w w' : World} {b off : Nat} {v : V} {A : Option Addr} {c : Nat} (h : CellsAt w b off v A c) (hk : ∀ q, q < 5 → w'.cell? ⟨b, off + q, none⟩ = w.cell? ⟨b, off + q, none⟩) : CellsAt w' b off v A c :=
  ⟨(hk 0 (by omega)).trans h.1, (hk 1 (by omega)).trans h.2.1, (hk 2 (by omega)).trans h.2.2.1, (hk 3 (by omega)).trans h.2.2.2.1, (hk 4 (by omega)).trans h.2.2.2.2⟩
theorem Blk.five {w : World} {g : Nat} {t : TypeId} {v0 v1 v2 v3 v4 : Value} (h : Blk w g t #[v0, v1, v2, v3, v4]) :
    w.cell? ⟨g, 0, none⟩ = some v0 ∧ w.cell? ⟨g, 1, none⟩ = some v1 ∧ w.cell? ⟨g, 2, none⟩ = some v2 ∧ w.cell? ⟨g, 3, none⟩ = some v3 ∧ w.cell? ⟨g, 4, none⟩ = some v4 :=
  ⟨h.cell 0, h.cell 1, h.cell 2, h.cell 3, h.cell 4⟩
theorem Blk.drew {w : World} {g : Nat} {t : TypeId} {cs : Array Value} (h : Blk w g t cs) : Blk w.drew g t cs := h
mutual
theorem V.nodes_weight : ∀ v : V, v.nodes ≤ v.weight + 1
  | .mk _ _ _ _ ks => by simp only [V.nodes, V.weight]; have := Vs.nodes_weight ks; omega
theorem Vs.nodes_weight : ∀ l : List V, Vs.nodes l ≤ Vs.weight l
  | [] => by simp [Vs.nodes]
  | v :: r => by simp only [Vs.nodes, Vs.weight]; have h1 := V.nodes_weight v; have h2 := Vs.nodes_weight r; omega
end
/-- What holds of every value whose kids it holds of. -/
theorem V.all {P : V → Prop} (h : ∀ v, (∀ i (hi : i < v.kids.length), P v.kids[i]) → P v) : ∀ v, P v := by
  have key : ∀ N (v : V), v.nodes ≤ N → P v := by
    intro N
    induction N with
    | zero => intro v hv; have := V.nodes_pos v; omega
    | succ N ih =>
      intro v hv
      refine h v fun i hi => ih _ ?_
      have h1 := Vs.nodes_get i hi
      rw [V.nodes_eq] at hv
      omega
  exact fun v => key _ v (Nat.le_refl _)
end Go.Proofs.YtbfddabljkoapaaGreatDoor

/-
  The drawing cursor: bytes and numbers from it.
-/
namespace Go.Proofs.YtbfddabljkoapaaGreatDoor
open Go.RowKit
set_option linter.unusedVariables false
set_option linter.unusedSimpArgs false
set_option maxRecDepth 100000

/-- Only block b changed, and what is new. -/
def Gr (b : Nat) (w w' : World) : Prop := w.grownBy w' (some b)
theorem Gr.refl (b : Nat) (w : World) : Gr b w w := World.grownBy.refl w _
theorem Gr.trans {b : Nat} {a c d : World} (h : Gr b a c) (k : Gr b c d) : Gr b a d := World.grownBy.trans h k
theorem Gr.alloc {b : Nat} {a w : World} (h : Gr b a w) (o : Obj) : Gr b a (w.alloc o) := h.trans (World.grownBy_alloc w o _)
theorem Gr.drewN {b : Nat} {a w : World} (h : Gr b a w) (n : Nat) : Gr b a (w.drewN n) := h.trans ⟨rfl, rfl, rfl, Nat.le_refl _, fun _ _ _ => rfl⟩
theorem Gr.drew {b : Nat} {a w : World} (h : Gr b a w) : Gr b a w.drew := h.trans ⟨rfl, rfl, rfl, Nat.le_refl _, fun _ _ _ => rfl⟩
theorem Gr.below {b B : Nat} {a w w' : World} (h : Gr b a w) (hb : Below B w w') (hB : w.heap.size ≤ B) : Gr b a w' := h.trans ⟨hb.os, hb.tape, hb.output, hb.size, fun k hk _ => hb.block k (Nat.lt_of_lt_of_le hk hB)⟩
theorem Gr.toBelow {b B : Nat} {w w' : World} (h : Gr b w w') (hB : B ≤ b) (hw : B ≤ w.heap.size) : Below B w w' := ⟨h.os, h.tape, h.output, h.size, fun k hk => h.block k (by omega) (by intro e; injection e with e; omega)⟩
theorem Gr.cell {b : Nat} {w w' : World} (h : Gr b w w') {g j : Nat} {v : Value} (hg : g ≠ b) (hc : w.cell? ⟨g, j, none⟩ = some v) : w'.cell? ⟨g, j, none⟩ = some v := World.grownBy.cell h hc (by intro e; injection e with e; exact hg e)
theorem Gr.set (b : Nat) (w : World) (i : Nat) (v : Value) : Gr b w (w.setCell ⟨b, i, none⟩ v) :=
  ⟨rfl, rfl, rfl, by simp, fun k _ hk => heap_setCell_other w ⟨b, i, none⟩ k v (fun e => hk (by simp [e]))⟩
/-- The cursor's block. -/
def CurB (w : World) (b : Nat) (A : Option Addr) (n cap : Nat) : Prop := ∃ (i : Nat) (h : Int), i ≤ n ∧ Blk w b 99 #[.slice A n cap, .int .i64 i, .int .i64 h]
/-- A cursor over bytes. -/
def Cur (w : World) (b : Nat) (A : Option Addr) (cap : Nat) (code : List UInt8) : Prop := CurB w b A code.length cap ∧ At1 w b A (code.map bv) ∧ code.length ≤ 1000000000
theorem Cur.lt {w : World} {b : Nat} {A : Option Addr} {cap : Nat} {code : List UInt8} (h : Cur w b A cap code) : b < w.heap.size := by
  obtain ⟨⟨i, h', _, hB⟩, _⟩ := h
  exact hB.lt
theorem Cur.below {w w' : World} {b : Nat} {A : Option Addr} {cap : Nat} {code : List UInt8} (h : Cur w b A cap code) {B : Nat} (hb : Below B w w') (hB : b < B) : Cur w' b A cap code := by
  obtain ⟨⟨i, h', hi, hB'⟩, h2, h3⟩ := h
  exact ⟨⟨i, h', hi, hB'.below hb hB⟩, h2.below hb (Nat.le_of_lt hB), h3⟩
theorem Cur.alloc {w : World} {b : Nat} {A : Option Addr} {cap : Nat} {code : List UInt8} (h : Cur w b A cap code) (o : Obj) : Cur (w.alloc o) b A cap code := h.below ((Below.refl w.heap.size w).alloc (Nat.le_refl _) o) h.lt
theorem Blk.set {w : World} {g : Nat} {t : TypeId} {cs : Array Value} (h : Blk w g t cs) (i : Nat) (v : Value) : Blk (w.setCell ⟨g, i, none⟩ v) g t (cs.setIfInBounds i v) := heap_setCell_same w g i cs t v h
theorem Blk.soft {w : World} {g : Nat} {t : TypeId} {cs : Array Value} (h : Blk w g t cs) (i : Nat) : w.frozen? ⟨g, i, none⟩ = false := frozen_of_row w g i cs t h
theorem At1.grown {w w' : World} {b : Nat} {A : Option Addr} {xs : List Value} (h : At1 w b A xs) (hg : Gr b w w') : At1 w' b A xs := by
  rcases h with h | ⟨g, off, h1, h2, h3⟩
  · exact .inl h
  · exact .inr ⟨g, off, h1, h2, fun j hj => hg.cell (by omega) (h3 j hj)⟩

theorem and255 (n : Int) : bits .and .i64 n 255 = ((n % 256).toNat : Int) := by
  have h255 : (BitVec.ofInt 64 255).toNat = 2 ^ 8 - 1 := by decide
  have key : (BitVec.ofInt 64 n &&& BitVec.ofInt 64 255).toNat = (n % ((2 ^ 64 : Nat) : Int)).toNat % 2 ^ 8 := by
    rw [BitVec.toNat_and, BitVec.toNat_ofInt, h255, Nat.and_two_pow_sub_one_eq_mod]
  show IntKind.i64.wrap ((BitVec.ofInt 64 n &&& BitVec.ofInt 64 255).toNat : Nat) = _
  rw [key, IntKind.wrap_i64]
  omega

/-- What drawing hands back behind a call: the cursor stands, and only it changed. -/
def Drawn (w : World) (b : Nat) (A : Option Addr) (cap : Nat) (code : List UInt8) (w' : World) : Prop := Cur w' b A cap code ∧ Gr b w w'

set_option maxHeartbeats 2000000 in
theorem dByte (b : Nat) (A : Option Addr) (cap : Nat) (code : List UInt8) (w : World) (hc : Cur w b A cap code) :
    Calls Tryz.prog 107 #[.pointer (some ⟨b, 0, none⟩)] w fun e w' => (∃ r : Nat, r < 256 ∧ e = .returned (.int .i64 r)) ∧ Drawn w b A cap code w' := by
  obtain ⟨⟨i, h, hi, hB⟩, hat, hn⟩ := hc
  have d2 : w.cell? ⟨b, 2, none⟩ = some (.int .i64 h) := hB.cell 2
  have k2 := hB.soft 2
  have HB := Lib.hid hB
  have HA := Lib.hid hat
  clear hB hat
  go_enter Tryz.func107, Tryz.ntmps107
  go_wp2_with fail
  generalize wrap64 (wrap64 (h * 6364136223846793005) + 1442695040888963407) = H
  have hB1 : Blk (w.setCell ⟨b, 2, none⟩ (.int .i64 H)) b 99 #[.slice A code.length cap, .int .i64 i, .int .i64 H] := HB.out.set 2 (.int .i64 H)
  have hg1 : Gr b w (w.setCell ⟨b, 2, none⟩ (.int .i64 H)) := Gr.set b w 2 _
  generalize w.setCell ⟨b, 2, none⟩ (.int .i64 H) = w1 at hB1 hg1 ⊢
  have HB1 := Lib.hid hB1
  have HG1 := Lib.hid hg1
  have e0 : w1.cell? ⟨b, 0, none⟩ = some (.slice A code.length cap) := hB1.cell 0
  have e1 : w1.cell? ⟨b, 1, none⟩ = some (.int .i64 i) := hB1.cell 1
  have e2 : w1.cell? ⟨b, 2, none⟩ = some (.int .i64 H) := hB1.cell 2
  clear d2 k2 hB1 hg1
  go_quiet (fail)
  rw [and255]
  have hX : (bits .xor .i64 (H / 8589934592) (H / 35184372088832) % 256).toNat < 256 := by omega
  generalize (bits .xor .i64 (H / 8589934592) (H / 35184372088832) % 256).toNat = X at hX ⊢
  have hg2 := HG1.out.drewN nq
  have hB2 : Blk (w1.drewN nq) b 99 #[.slice A code.length cap, .int .i64 i, .int .i64 H] := HB1.out
  generalize w1.drewN nq = w2 at hg2 hB2 ⊢
  have f0 : w2.cell? ⟨b, 0, none⟩ = some (.slice A code.length cap) := hB2.cell 0
  have f1 : w2.cell? ⟨b, 1, none⟩ = some (.int .i64 i) := hB2.cell 1
  have HB2 := Lib.hid hB2
  have HG2 := Lib.hid hg2
  clear e0 e1 e2 hB2 hg2
  by_cases hlt : i < code.length
  · obtain ⟨g, off, rfl, hgb, hcell⟩ := (HA.out.grown HG2.out).get (j := i) (by simpa using hlt)
    rw [List.getElem_map] at hcell
    unfold bv at hcell
    go_wp2_with fail
    go_quiet (fail)
    have hg3 := HG2.out.drewN nq
    have hB3 : Blk (w2.drewN nq) b 99 #[.slice (some ⟨g, off, none⟩) code.length cap, .int .i64 i, .int .i64 H] := HB2.out
    have hcell3 : (w2.drewN nq).cell? ⟨g, off + i, none⟩ = some (.int .u8 ((code[i]).toNat : Int)) := hcell
    generalize w2.drewN nq = w3 at hg3 hB3 hcell3 ⊢
    have e0 : w3.cell? ⟨b, 0, none⟩ = some (.slice (some ⟨g, off, none⟩) code.length cap) := hB3.cell 0
    have e1 : w3.cell? ⟨b, 1, none⟩ = some (.int .i64 i) := hB3.cell 1
    have hu : (code[i]).toNat < 256 := UInt8.toNat_lt _
    have HB3 := Lib.hid hB3
    have HG3 := Lib.hid hg3
    clear f0 f1 hcell hB3 hg3
    go_wp2_with fail
    go_quiet (fail)
    rw [and255]
    have hY : ((((X : Nat) : Int) + ((code[i]).toNat : Int)) % 256).toNat < 256 := by omega
    generalize ((((X : Nat) : Int) + ((code[i]).toNat : Int)) % 256).toNat = Y at hY ⊢
    have hg4 := HG3.out.drewN nq
    have hB4 : Blk (w3.drewN nq) b 99 #[.slice (some ⟨g, off, none⟩) code.length cap, .int .i64 i, .int .i64 H] := HB3.out
    generalize w3.drewN nq = w4 at hg4 hB4 ⊢
    have f1 : w4.cell? ⟨b, 1, none⟩ = some (.int .i64 i) := hB4.cell 1
    have k1 := hB4.soft 1
    have HB4 := Lib.hid hB4
    have HG4 := Lib.hid hg4
    clear e0 e1 hB4 hg4 hcell3
    go_wp2_with fail
    go_ret
    have hgN : Gr b w (w4.setCell ⟨b, 1, none⟩ (.int .i64 ((i + 1 : Nat) : Int))) := HG4.out.trans (Gr.set b w4 1 _)
    exact ⟨⟨Y, hY, rfl⟩, ⟨⟨i + 1, H, hlt, HB4.out.set 1 (.int .i64 ((i + 1 : Nat) : Int))⟩, HA.out.grown hgN, hn⟩, hgN⟩
  · go_wp2_with fail
    go_quiet (fail)
    go_wp2_with fail
    go_ret
    exact ⟨⟨X, hX, rfl⟩, ⟨⟨i, H, hi, HB2.out⟩, HA.out.grown (HG2.out.drewN _), hn⟩, HG2.out.drewN _⟩

theorem tmodN (x n : Nat) : Int.tmod (x : Int) (n : Int) = ((x % n : Nat) : Int) := by
  rw [Int.tmod_eq_emod_of_nonneg (by omega)]
  omega

set_option maxHeartbeats 2000000 in
theorem dBelow (n : Nat) (b : Nat) (A : Option Addr) (cap : Nat) (code : List UInt8) (w : World) (h0 : 0 < n) (hn : n ≤ 2000000000) (hc : Cur w b A cap code) :
    Calls Tryz.prog 63 #[.pointer (some ⟨b, 0, none⟩), .int .i64 n] w fun e w' => (∃ r : Nat, r < n ∧ e = .returned (.int .i64 r)) ∧ Drawn w b A cap code w' := by
  have HC := Lib.hid hc
  clear hc
  have hn0 : ¬ (n : Int) = 0 := by omega
  by_cases h256 : n ≤ 256
  · go_enter Tryz.func63, Tryz.ntmps63
    go_wp2_with fail
    refine (dByte b A cap code w HC.out).mono ?_
    rintro e w1 ⟨⟨r, hr, rfl⟩, hd⟩
    go_wp2_with fail
    go_ret
    exact ⟨⟨r % n, Nat.mod_lt _ h0, ret_eq (congrArg (Value.int .i64) (by simp))⟩, hd⟩
  · go_enter Tryz.func63, Tryz.ntmps63
    go_wp2_with fail
    refine (dByte b A cap code w HC.out).mono ?_
    rintro e w1 ⟨⟨r1, hr1, rfl⟩, hd1⟩
    go_wp2_with fail
    refine (dByte b A cap code w1 hd1.1).mono ?_
    rintro e w2 ⟨⟨r2, hr2, rfl⟩, hd2⟩
    go_wp2_with fail
    refine (dByte b A cap code w2 hd2.1).mono ?_
    rintro e w3 ⟨⟨r3, hr3, rfl⟩, hd3⟩
    go_wp2_with fail
    refine (dByte b A cap code w3 hd3.1).mono ?_
    rintro e w4 ⟨⟨r4, hr4, rfl⟩, hd4⟩
    go_wp2_with fail
    go_ret
    exact ⟨⟨(r1 * 16777216 + r2 * 65536 + r3 * 256 + r4) % n, Nat.mod_lt _ h0, ret_eq (congrArg (Value.int .i64) (by simp))⟩, hd4.1, hd1.2.trans (hd2.2.trans (hd3.2.trans hd4.2))⟩

theorem dOnce (n : Nat) (b : Nat) (A : Option Addr) (cap : Nat) (code : List UInt8) (w : World) (h0 : 0 < n) (hn : n ≤ 2000000000) (hc : Cur w b A cap code) :
    Calls Tryz.prog 53 #[.pointer (some ⟨b, 0, none⟩), .int .i64 n] w fun e w' => (∃ r : Bool, e = .returned (.bool r)) ∧ Drawn w b A cap code w' := by
  have HC := Lib.hid hc
  clear hc
  go_enter Tryz.func53, Tryz.ntmps53
  go_wp2_with fail
  refine (dBelow n b A cap code w h0 hn HC.out).mono ?_
  rintro e w1 ⟨⟨r, hr, rfl⟩, hd⟩
  by_cases hz : r = 0
  · subst hz
    go_wp2_with fail
    go_ret
    exact ⟨⟨_, rfl⟩, hd⟩
  · have hz2 : ¬ (r : Int) = 0 := by omega
    go_wp2_with fail
    go_ret
    exact ⟨⟨_, rfl⟩, hd⟩

/-- A row to pick from. -/
def PickRow (w : World) (b g : Nat) (xs : List Value) : Prop := g ≠ b ∧ ∀ j (h : j < xs.length), w.cell? ⟨g, j, none⟩ = some xs[j]
theorem PickRow.new {w : World} {b : Nat} (hb : b < w.heap.size) (xs : Array Value) (t : TypeId) : PickRow (w.alloc (.cells xs t)) b w.heap.size xs.toList := by
  refine ⟨by omega, fun j hj => ?_⟩
  simp

set_option maxHeartbeats 2000000 in
theorem dPick (l : List ByteArray) (g c : Nat) (b : Nat) (A : Option Addr) (cap : Nat) (code : List UInt8) (w : World) (h0 : 0 < l.length) (hn : l.length ≤ 1000) (hc : Cur w b A cap code) (hp : PickRow w b g (l.map Value.string)) :
    Calls Tryz.prog 54 #[.pointer (some ⟨b, 0, none⟩), .slice (some ⟨g, 0, none⟩) l.length c] w fun e w' => (∃ s ∈ l, e = .returned (.string s)) ∧ Drawn w b A cap code w' := by
  have HC := Lib.hid hc
  have HP := Lib.hid hp
  clear hc hp
  go_enter Tryz.func54, Tryz.ntmps54
  go_wp2_with fail
  refine (dBelow l.length b A cap code w h0 (by omega) HC.out).mono ?_
  rintro e w1 ⟨⟨r, hr, rfl⟩, hd⟩
  have d0 := hd.2.cell HP.out.1 (HP.out.2 r (by simpa using hr))
  rw [List.getElem_map] at d0
  go_wp2_with fail
  go_ret
  exact ⟨⟨_, List.getElem_mem hr, rfl⟩, hd⟩

set_option maxHeartbeats 2000000 in
theorem dPickInt (l : List Int) (g c : Nat) (b : Nat) (A : Option Addr) (cap : Nat) (code : List UInt8) (w : World) (h0 : 0 < l.length) (hn : l.length ≤ 1000) (hc : Cur w b A cap code) (hp : PickRow w b g (l.map (Value.int .i64))) :
    Calls Tryz.prog 55 #[.pointer (some ⟨b, 0, none⟩), .slice (some ⟨g, 0, none⟩) l.length c] w fun e w' => (∃ z ∈ l, e = .returned (.int .i64 z)) ∧ Drawn w b A cap code w' := by
  have HC := Lib.hid hc
  have HP := Lib.hid hp
  clear hc hp
  go_enter Tryz.func55, Tryz.ntmps55
  go_wp2_with fail
  refine (dBelow l.length b A cap code w h0 (by omega) HC.out).mono ?_
  rintro e w1 ⟨⟨r, hr, rfl⟩, hd⟩
  have d0 := hd.2.cell HP.out.1 (HP.out.2 r (by simpa using hr))
  rw [List.getElem_map] at d0
  go_wp2_with fail
  go_ret
  exact ⟨⟨_, List.getElem_mem hr, rfl⟩, hd⟩
end Go.Proofs.YtbfddabljkoapaaGreatDoor

/-
  The drawing cursor: a new one; short texts; a text bent.
-/
namespace Go.Proofs.YtbfddabljkoapaaGreatDoor
open Go.RowKit
set_option linter.unusedVariables false
set_option linter.unusedSimpArgs false
set_option maxRecDepth 100000

set_option maxHeartbeats 2000000 in
theorem dNew (A : Option Addr) (cap : Nat) (code : List UInt8) (w : World) (hat : At1 w w.heap.size A (code.map bv)) (hn : code.length ≤ 1000000000) :
    Calls Tryz.prog 49 #[.slice A code.length cap] w fun e w' => e = .returned (.pointer (some ⟨w.heap.size, 0, none⟩)) ∧ Cur w' w.heap.size A cap code ∧ Below w.heap.size w w' := by
  have HA := Lib.hid hat
  clear hat
  go_enter Tryz.func49, Tryz.ntmps49
  go_wp2_with fail
  go_loop [3, 4] (fun h i => ∃ (j : Nat) (H : Int), j ≤ code.length ∧ i = .int .i64 j ∧ h = .int .i64 H) (fun _ i => code.length - (intOf i).toNat)
  case atStart => exact ⟨0, _, Nat.zero_le _, rfl, rfl⟩
  case round =>
    obtain ⟨j, H, hj, rfl, rfl⟩ := hrel
    have fin : ∀ (H : Int), Cur (w.alloc (.cells #[.slice A code.length cap, .int .i64 0, .int .i64 H] 99)) w.heap.size A cap code ∧ Below w.heap.size w (w.alloc (.cells #[.slice A code.length cap, .int .i64 0, .int .i64 H] 99)) := fun H =>
      ⟨⟨⟨0, H, Nat.zero_le _, Blk.new w _ _⟩, HA.out.below ((Below.refl w.heap.size w).alloc (Nat.le_refl _) _) (Nat.le_refl _), hn⟩, (Below.refl _ _).alloc (Nat.le_refl _) _⟩
    have HF := Lib.hid fin
    clear fin
    by_cases hlt : j < code.length
    · by_cases h4 : j < 4000
      · obtain ⟨g, off, rfl, hgb, hcell⟩ := HA.out.get (j := j) (by simpa using hlt)
        rw [List.getElem_map] at hcell
        unfold bv at hcell
        have h4i : (j : Int) < 4000 := by omega
        go_wp2_with fail
        go_round
        case rel => exact ⟨j + 1, _, hlt, by go_num, rfl⟩
        case measure => simp [intOf]; omega
      · have h4i : ¬ (j : Int) < 4000 := by omega
        go_wp2_with fail
        go_ret
        exact ⟨rfl, HF.out _⟩
    · obtain rfl : j = code.length := by omega
      go_wp2_with fail
      go_ret
      exact ⟨rfl, HF.out _⟩

theorem Drawn.trans {b cap : Nat} {A : Option Addr} {code : List UInt8} {a c d : World} (h : Drawn a b A cap code c) (k : Drawn c b A cap code d) : Drawn a b A cap code d := ⟨k.1, h.2.trans k.2⟩
theorem Drawn.refl {b cap : Nat} {A : Option Addr} {code : List UInt8} {w : World} (h : Cur w b A cap code) : Drawn w b A cap code w := ⟨h, Gr.refl _ _⟩
theorem Drawn.alloc {b cap : Nat} {A : Option Addr} {code : List UInt8} {w : World} (h : Cur w b A cap code) (o : Obj) : Drawn w b A cap code (w.alloc o) := ⟨h.alloc o, (Gr.refl _ _).alloc o⟩
theorem Drawn.of {b cap : Nat} {A : Option Addr} {code : List UInt8} {w w' : World} (h : Cur w b A cap code) (hb : Below w.heap.size w w') : Drawn w b A cap code w' := ⟨h.below hb h.lt, (Gr.refl _ _).below hb (Nat.le_refl _)⟩
/-- Picking from a new row of texts. -/
theorem dPickNew (l : List ByteArray) (b : Nat) (A : Option Addr) (cap : Nat) (code : List UInt8) (w : World) (h0 : 0 < l.length) (hn : l.length ≤ 1000) (hc : Cur w b A cap code) :
    Calls Tryz.prog 54 #[.pointer (some ⟨b, 0, none⟩), .slice (some ⟨w.heap.size, 0, none⟩) l.length l.length] (w.alloc (.cells (l.map Value.string).toArray 9)) fun e w' => (∃ s ∈ l, e = .returned (.string s)) ∧ Drawn w b A cap code w' := by
  have hp := PickRow.new hc.lt (l.map Value.string).toArray 9
  rw [List.toList_toArray] at hp
  refine (dPick l w.heap.size l.length b A cap code _ h0 hn (hc.alloc _) hp).mono ?_
  rintro e w' ⟨he, hd⟩
  exact ⟨he, (Drawn.alloc hc _).trans hd⟩
theorem dPickNewD (l : List ByteArray) (b : Nat) (A : Option Addr) (cap : Nat) (code : List UInt8) (w : World) (h0 : 0 < l.length) (hn : l.length ≤ 1000) (hc : Cur w b A cap code) :
    Calls Tryz.prog 54 #[.pointer (some ⟨b, 0, none⟩), .slice (some ⟨w.heap.size, 0, none⟩) l.length l.length] (w.alloc (.cells (l.map Value.string).toArray 9)).drew fun e w' => (∃ s ∈ l, e = .returned (.string s)) ∧ Drawn w b A cap code w' := by
  have hp := PickRow.new hc.lt (l.map Value.string).toArray 9
  rw [List.toList_toArray] at hp
  refine (dPick l w.heap.size l.length b A cap code _ h0 hn (show Cur (w.alloc (.cells (l.map Value.string).toArray 9)).drew b A cap code from hc.alloc _) hp).mono ?_
  rintro e w' ⟨he, hd⟩
  exact ⟨he, hd.1, (((Gr.refl _ _).alloc _).drew).trans hd.2⟩
theorem dPickIntNewD (l : List Int) (b : Nat) (A : Option Addr) (cap : Nat) (code : List UInt8) (w : World) (h0 : 0 < l.length) (hn : l.length ≤ 1000) (hc : Cur w b A cap code) :
    Calls Tryz.prog 55 #[.pointer (some ⟨b, 0, none⟩), .slice (some ⟨w.heap.size, 0, none⟩) l.length l.length] (w.alloc (.cells (l.map (Value.int .i64)).toArray 3)).drew fun e w' => (∃ z ∈ l, e = .returned (.int .i64 z)) ∧ Drawn w b A cap code w' := by
  have hp := PickRow.new hc.lt (l.map (Value.int .i64)).toArray 3
  rw [List.toList_toArray] at hp
  refine (dPickInt l w.heap.size l.length b A cap code _ h0 hn (show Cur (w.alloc (.cells (l.map (Value.int .i64)).toArray 3)).drew b A cap code from hc.alloc _) hp).mono ?_
  rintro e w' ⟨he, hd⟩
  exact ⟨he, hd.1, (((Gr.refl _ _).alloc _).drew).trans hd.2⟩
theorem dPickIntNew (l : List Int) (b : Nat) (A : Option Addr) (cap : Nat) (code : List UInt8) (w : World) (h0 : 0 < l.length) (hn : l.length ≤ 1000) (hc : Cur w b A cap code) :
    Calls Tryz.prog 55 #[.pointer (some ⟨b, 0, none⟩), .slice (some ⟨w.heap.size, 0, none⟩) l.length l.length] (w.alloc (.cells (l.map (Value.int .i64)).toArray 3)) fun e w' => (∃ z ∈ l, e = .returned (.int .i64 z)) ∧ Drawn w b A cap code w' := by
  have hp := PickRow.new hc.lt (l.map (Value.int .i64)).toArray 3
  rw [List.toList_toArray] at hp
  refine (dPickInt l w.heap.size l.length b A cap code _ h0 hn (hc.alloc _) hp).mono ?_
  rintro e w' ⟨he, hd⟩
  exact ⟨he, (Drawn.alloc hc _).trans hd⟩

def someL : List ByteArray := [⟨#[97]⟩, ⟨#[98]⟩, ⟨#[110, 97, 109, 101]⟩, ⟨#[34]⟩, ⟨#[92]⟩, ⟨#[10]⟩, ⟨#[1]⟩, ⟨#[195, 169]⟩, ⟨#[226, 130, 172]⟩, ⟨#[240, 159, 152, 128]⟩, ⟨#[47]⟩, ⟨#[48]⟩, ⟨#[32]⟩]
theorem someL_size : ∀ s ∈ someL, s.size ≤ 4 := by decide
set_option maxHeartbeats 2000000 in
theorem dSome (b : Nat) (A : Option Addr) (cap : Nat) (code : List UInt8) (w : World) (hc : Cur w b A cap code) :
    Calls Tryz.prog 51 #[.pointer (some ⟨b, 0, none⟩)] w fun e w' => (∃ s : ByteArray, s.size ≤ 16 ∧ e = .returned (.string s)) ∧ Drawn w b A cap code w' := by
  have HC := Lib.hid hc
  clear hc
  go_enter Tryz.func51, Tryz.ntmps51
  go_wp2_with fail
  refine (dBelow 5 b A cap code w (by omega) (by omega) HC.out).mono ?_
  rintro e w1 ⟨⟨n, hn, rfl⟩, hd1⟩
  have HD1 := Lib.hid hd1
  clear hd1
  go_wp2_with fail
  go_loopw [3, 5] (fun o i wr => ∃ (j : Nat) (t : ByteArray), j ≤ n ∧ i = .int .i64 j ∧ o = .string t ∧ t.size ≤ 4 * j ∧ Hid (Drawn w b A cap code wr)) (fun _ i _ => n - (intOf i).toNat)
  case atStart => exact ⟨0, ⟨#[]⟩, Nat.zero_le _, rfl, rfl, Nat.zero_le _, HD1⟩
  case round =>
    obtain ⟨j, t, hj, rfl, rfl, ht, HD⟩ := hrel
    by_cases hlt : j < n
    · go_wp2_with fail
      refine (dPickNew someL b A cap code _ (by decide) (by decide) HD.out.1).mono ?_
      rintro e w2 ⟨⟨p, hp, rfl⟩, hd2⟩
      have hps := someL_size p hp
      have HD2 := Lib.hid (HD.out.trans hd2)
      clear hp hd2
      go_wp2_with fail
      go_roundw
      case rel => exact ⟨j + 1, t ++ p, hlt, by go_num, rfl, by simp; omega, HD2⟩
      case measure => simp [intOf]; omega
    · obtain rfl : j = n := by omega
      go_wp2_with fail
      go_ret
      exact ⟨⟨t, by omega, rfl⟩, HD.out⟩
end Go.Proofs.YtbfddabljkoapaaGreatDoor

/-
  The drawing cursor: a text bent.
-/
namespace Go.Proofs.YtbfddabljkoapaaGreatDoor
open Go.RowKit
set_option linter.unusedVariables false
set_option linter.unusedSimpArgs false
set_option maxRecDepth 100000

def bentL1 : List ByteArray := [⟨#[48]⟩, ⟨#[32]⟩, ⟨#[255]⟩, ⟨#[128]⟩, ⟨#[34]⟩, ⟨#[92]⟩, ⟨#[97]⟩, ⟨#[44]⟩]
def bentL2 : List ByteArray := [⟨#[48]⟩, ⟨#[192]⟩, ⟨#[0]⟩, ⟨#[57]⟩, ⟨#[93]⟩]
theorem bent_size1 : ∀ s ∈ bentL1, s.size ≤ 1 := by decide
theorem bent_size2 : ∀ s ∈ bentL2, s.size ≤ 1 := by decide
set_option maxHeartbeats 4000000 in
theorem dBent (s : ByteArray) (b : Nat) (A : Option Addr) (cap : Nat) (code : List UInt8) (w : World) (hs : s.size ≤ 1000000) (hc : Cur w b A cap code) :
    Calls Tryz.prog 50 #[.pointer (some ⟨b, 0, none⟩), .string s] w fun e w' => (∃ t : ByteArray, t.size ≤ s.size + 1 ∧ e = .returned (.string t)) ∧ Drawn w b A cap code w' := by
  have HC := Lib.hid hc
  clear hc
  go_enter Tryz.func50, Tryz.ntmps50
  go_wp2_with fail
  have hcall := dBelow (s.size + 1) b A cap code w (by omega) (by omega) HC.out
  refine hcall.mono ?_
  rintro e w1 ⟨⟨i, hi, rfl⟩, hd1⟩
  have HD1 := Lib.hid hd1
  clear hd1
  go_wp2_with fail
  refine (dBelow 8 b A cap code w1 (by omega) (by omega) HD1.out.1).mono ?_
  rintro e w2 ⟨⟨k, hk, rfl⟩, hd2⟩
  have HD2 := Lib.hid (HD1.out.trans hd2)
  clear hd2
  have hib : (0 : Int) ≤ (i : Int) ∧ (i : Int) ≤ (s.size : Int) := by omega
  by_cases k0 : k = 0
  · subst k0
    go_wp2_with fail
    go_ret
    exact ⟨⟨_, by rw [ByteArray.size_extract]; omega, rfl⟩, HD2.out⟩
  · have k0i : ¬ (k : Int) = 0 := by omega
    by_cases k1 : k = 1
    · subst k1
      have hsa : (s.extract 0 i).size ≤ s.size := by rw [ByteArray.size_extract]; omega
      have hsb : (s.extract i s.size).size + i ≤ s.size := by rw [ByteArray.size_extract]; omega
      have hsc : (s.extract 0 i).size ≤ i := by rw [ByteArray.size_extract]; omega
      have HP := Lib.hid (dPickNewD bentL1 b A cap code w2 (by decide) (by decide) HD2.out.1)
      go_wp2_with fail
      go_region_held3 (fun _ => True) (exact trivial) (first | (go_at_call 54; refine HP.out.mono ?_; rintro e w3 ⟨⟨p, hp, rfl⟩, hd3⟩; have hps := bent_size1 p hp; have hsum1 := fun W => run_string_add_sum (P := Tryz.prog) (w := W) (s.extract 0 i) p (by omega); have hsum2 := fun W => run_string_add_sum (P := Tryz.prog) (w := W) (s.extract 0 i ++ p) (s.extract i s.size) (by rw [ByteArray.size_append]; omega)))
      all_goals
        go_wp2_with fail
        go_ret
        exact ⟨⟨_, by rw [ByteArray.size_append, ByteArray.size_append]; omega, rfl⟩, HD2.out.trans hd3⟩
    · have k1i : ¬ (k : Int) = 1 := by omega
      by_cases k2 : k = 2
      · subst k2
        by_cases hlt : i < s.size
        · have hsc : (s.extract 0 i).size ≤ i := by rw [ByteArray.size_extract]; omega
          have hsb : (s.extract (i + 1) s.size).size + i + 1 ≤ s.size := by rw [ByteArray.size_extract]; omega
          have hlt2 : (i : Int) < (s.size : Int) := by omega
          have hi1 : (0 : Int) ≤ (i : Int) + 1 ∧ (i : Int) + 1 ≤ (s.size : Int) := by omega
          have hwr : IntKind.i64.wrap ((i : Int) + 1) = (i : Int) + 1 := by rw [IntKind.wrap_i64]; omega
          have htn : ((i : Int) + 1).toNat = i + 1 := by omega
          have HP := Lib.hid (dPickNewD bentL2 b A cap code w2 (by decide) (by decide) HD2.out.1)
          go_wp2_with fail
          go_region_held3 (fun _ => True) (exact trivial) (first | (go_at_call 54; refine HP.out.mono ?_; rintro e w3 ⟨⟨p, hp, rfl⟩, hd3⟩; have hps := bent_size2 p hp; have hsum1 := fun W => run_string_add_sum (P := Tryz.prog) (w := W) (s.extract 0 i) p (by omega); have hsum2 := fun W => run_string_add_sum (P := Tryz.prog) (w := W) (s.extract 0 i ++ p) (s.extract (i + 1) s.size) (by rw [ByteArray.size_append]; omega)))
          all_goals
            go_wp2_with fail
            go_ret
            exact ⟨⟨_, by rw [ByteArray.size_append, ByteArray.size_append]; omega, rfl⟩, HD2.out.trans hd3⟩
        · have hlt2 : (s.size : Int) ≤ (i : Int) := by omega
          go_wp2_with fail
          go_ret
          exact ⟨⟨s, by omega, rfl⟩, HD2.out⟩
      · have k2i : ¬ (k : Int) = 2 := by omega
        go_wp2_with fail
        go_ret
        exact ⟨⟨s, by omega, rfl⟩, HD2.out⟩

/-- A whole draw: below the world's end only new blocks. -/
theorem Drawn.toBelow {b cap : Nat} {A : Option Addr} {code : List UInt8} {w0 w w' : World} (h : Drawn w b A cap code w') (h0 : Below w0.heap.size w0 w) (hb : w0.heap.size ≤ b) : Below w0.heap.size w0 w' := h0.trans (h.2.toBelow hb h0.size)
/-- What a draw of a text hands back: some text of bounded size. -/
def Drew (n : Nat) (w : World) (e : Ending) (w' : World) : Prop := (∃ t : ByteArray, t.size ≤ n ∧ e = .returned (.string t)) ∧ Below w.heap.size w w'
end Go.Proofs.YtbfddabljkoapaaGreatDoor

/-
  Numbers of 64 bits.
-/
namespace Go.Proofs.YtbfddabljkoapaaGreatDoor
open Go.RowKit

/-- A number as a value of 64 bits. -/
def i64of (n : Nat) : Int := wrap64 (n : Int)
theorem wrap64_eq (n : Int) : wrap64 n = (n + 9223372036854775808) % 18446744073709551616 - 9223372036854775808 := by unfold wrap64; rfl
theorem i64of_zero : i64of 0 = 0 := by unfold i64of; rw [wrap64_eq]; rfl
theorem i64of_small (n : Nat) (h : n < 9223372036854775808) : i64of n = (n : Int) := by unfold i64of; rw [wrap64_eq]; omega
theorem i64of_succ (n : Nat) : wrap64 (i64of n + 1) = i64of (n + 1) := by unfold i64of; rw [wrap64_eq, wrap64_eq, wrap64_eq]; omega
end Go.Proofs.YtbfddabljkoapaaGreatDoor

/-
  The drawing cursor's numbers: from every state a state is reached from which three good bytes follow.
-/
namespace Go.Proofs.YtbfddabljkoapaaGreatDoor
open Go.RowKit
set_option linter.unusedVariables false
set_option maxRecDepth 100000

/-- The next state. -/
def lcg (h : Int) : Int := wrap64 (wrap64 (h * 6364136223846793005) + 1442695040888963407)
theorem lcg_mod (h : Int) : lcg h % 18446744073709551616 = (6364136223846793005 * h + 1442695040888963407) % 18446744073709551616 ∧ -9223372036854775808 ≤ lcg h ∧ lcg h ≤ 9223372036854775807 := by
  unfold lcg
  rw [wrap64_eq, wrap64_eq]
  omega
def lcgN : Nat → Int → Int
  | 0, h => h
  | n + 1, h => lcgN n (lcg h)
theorem lcgN_add : ∀ (m n : Nat) (h : Int), lcgN (m + n) h = lcgN n (lcgN m h)
  | 0, n, h => by rw [Nat.zero_add]; rfl
  | m + 1, n, h => by rw [show m + 1 + n = (m + n) + 1 by omega]; exact lcgN_add m n (lcg h)
theorem lcgN_range : ∀ (n : Nat) (h : Int), -9223372036854775808 ≤ h ∧ h ≤ 9223372036854775807 → -9223372036854775808 ≤ lcgN n h ∧ lcgN n h ≤ 9223372036854775807
  | 0, h, hr => hr
  | n + 1, h, hr => lcgN_range n (lcg h) (lcg_mod h).2
theorem jump_comp (A C A2 C2 Q R h a y : Int) (hA : A * A = A2 + 18446744073709551616 * Q) (hC : A * C + C = C2 + 18446744073709551616 * R) (ha : a % 18446744073709551616 = (A * h + C) % 18446744073709551616) (hy : y % 18446744073709551616 = (A * a + C) % 18446744073709551616) :
    y % 18446744073709551616 = (A2 * h + C2) % 18446744073709551616 := by
  obtain ⟨k, hk⟩ : ∃ k, a = A * h + C + 18446744073709551616 * k := ⟨(a - (A * h + C)) / 18446744073709551616, by omega⟩
  have e : A * a + C = A2 * h + C2 + 18446744073709551616 * (Q * h + R + A * k) := by
    rw [hk, Int.mul_add, Int.mul_add, ← Int.mul_assoc, hA, Int.add_mul, Int.mul_left_comm A 18446744073709551616 k, Int.mul_add, Int.mul_add, Int.mul_assoc 18446744073709551616 Q h]
    generalize A2 * h = x1
    generalize Q * h = x2
    generalize A * k = x3
    generalize hx : A * C = x4 at hC ⊢
    omega
  rw [hy, e, Int.add_mul_emod_self_left]
theorem jump0 (h : Int) : lcgN 1 h % 18446744073709551616 = (6364136223846793005 * h + 1442695040888963407) % 18446744073709551616 := (lcg_mod h).1
theorem reach0 (h : Int) (hk : (h - 8) % 1 = 0) : ∃ m, m ≤ 1 ∧ (lcgN m h - 8) % 2 = 0 := by
  by_cases h2 : (h - 8) % 2 = 0
  · exact ⟨0, Nat.zero_le _, h2⟩
  · refine ⟨1, Nat.le_refl _, ?_⟩
    have hj := jump0 h
    have e : 6364136223846793005 * h + 1442695040888963407 = h + 1 + 2 * (3182068111923396502 * h + 721347520444481703) := by omega
    rw [e] at hj
    generalize 3182068111923396502 * h + 721347520444481703 = w at hj
    clear e
    generalize lcgN 1 h = y at hj ⊢
    omega
theorem jump1 (h : Int) : lcgN 2 h % 18446744073709551616 = (7520897724310334953 * h + 1876011003808476466) % 18446744073709551616 := by
  have e : lcgN 2 h = lcgN 1 (lcgN 1 h) := lcgN_add 1 1 h
  rw [e]
  exact jump_comp 6364136223846793005 1442695040888963407 7520897724310334953 1876011003808476466 2195630281085919242 497730533529282336 h _ _ (by decide) (by decide) (jump0 h) (jump0 (lcgN 1 h))
theorem reach1 (h : Int) (hk : (h - 8) % 2 = 0) : ∃ m, m ≤ 2 ∧ (lcgN m h - 8) % 4 = 0 := by
  by_cases h2 : (h - 8) % 4 = 0
  · exact ⟨0, Nat.zero_le _, h2⟩
  · refine ⟨2, Nat.le_refl _, ?_⟩
    have hj := jump1 h
    have e : 7520897724310334953 * h + 1876011003808476466 = h + 2 + 4 * (1880224431077583738 * h + 469002750952119116) := by omega
    rw [e] at hj
    generalize 1880224431077583738 * h + 469002750952119116 = w at hj
    clear e
    generalize lcgN 2 h = y at hj ⊢
    omega
theorem jump2 (h : Int) : lcgN 4 h % 18446744073709551616 = (18108194425815612945 * h + 7401132627792533940) % 18446744073709551616 := by
  have e : lcgN 4 h = lcgN 2 (lcgN 2 h) := lcgN_add 2 2 h
  rw [e]
  exact jump_comp 7520897724310334953 1876011003808476466 18108194425815612945 7401132627792533940 3066335303049588304 764865974881333514 h _ _ (by decide) (by decide) (jump1 h) (jump1 (lcgN 2 h))
theorem reach2 (h : Int) (hk : (h - 8) % 4 = 0) : ∃ m, m ≤ 4 ∧ (lcgN m h - 8) % 8 = 0 := by
  by_cases h2 : (h - 8) % 8 = 0
  · exact ⟨0, Nat.zero_le _, h2⟩
  · refine ⟨4, Nat.le_refl _, ?_⟩
    have hj := jump2 h
    have e : 18108194425815612945 * h + 7401132627792533940 = h + 4 + 8 * (2263524303226951618 * h + 925141578474066742) := by omega
    rw [e] at hj
    generalize 2263524303226951618 * h + 925141578474066742 = w at hj
    clear e
    generalize lcgN 4 h = y at hj ⊢
    omega
theorem jump3 (h : Int) : lcgN 8 h % 18446744073709551616 = (13086856194709077281 * h + 6566661184467396264) % 18446744073709551616 := by
  have e : lcgN 8 h = lcgN 4 (lcgN 4 h) := lcgN_add 4 4 h
  rw [e]
  exact jump_comp 18108194425815612945 7401132627792533940 13086856194709077281 6566661184467396264 17775858116364010084 7265301023302147086 h _ _ (by decide) (by decide) (jump2 h) (jump2 (lcgN 4 h))
theorem reach3 (h : Int) (hk : (h - 8) % 8 = 0) : ∃ m, m ≤ 8 ∧ (lcgN m h - 8) % 16 = 0 := by
  by_cases h2 : (h - 8) % 16 = 0
  · exact ⟨0, Nat.zero_le _, h2⟩
  · refine ⟨8, Nat.le_refl _, ?_⟩
    have hj := jump3 h
    have e : 13086856194709077281 * h + 6566661184467396264 = h + 8 + 16 * (817928512169317330 * h + 410416324029212266) := by omega
    rw [e] at hj
    generalize 817928512169317330 * h + 410416324029212266 = w at hj
    clear e
    generalize lcgN 8 h = y at hj ⊢
    omega
theorem jump4 (h : Int) : lcgN 16 h % 18446744073709551616 = (10186629832379121217 * h + 3646985772805368400) % 18446744073709551616 := by
  have e : lcgN 16 h = lcgN 8 (lcgN 8 h) := lcgN_add 8 8 h
  rw [e]
  exact jump_comp 13086856194709077281 6566661184467396264 10186629832379121217 3646985772805368400 9284337895980502959 4658651426892230078 h _ _ (by decide) (by decide) (jump3 h) (jump3 (lcgN 8 h))
theorem reach4 (h : Int) (hk : (h - 8) % 16 = 0) : ∃ m, m ≤ 16 ∧ (lcgN m h - 8) % 32 = 0 := by
  by_cases h2 : (h - 8) % 32 = 0
  · exact ⟨0, Nat.zero_le _, h2⟩
  · refine ⟨16, Nat.le_refl _, ?_⟩
    have hj := jump4 h
    have e : 10186629832379121217 * h + 3646985772805368400 = h + 16 + 32 * (318332182261847538 * h + 113968305400167762) := by omega
    rw [e] at hj
    generalize 318332182261847538 * h + 113968305400167762 = w at hj
    clear e
    generalize lcgN 16 h = y at hj ⊢
    omega
theorem jump5 (h : Int) : lcgN 32 h % 18446744073709551616 = (10828933358287359105 * h + 982119659650238624) % 18446744073709551616 := by
  have e : lcgN 32 h = lcgN 16 (lcgN 16 h) := lcgN_add 16 16 h
  rw [e]
  exact jump_comp 10186629832379121217 3646985772805368400 10828933358287359105 982119659650238624 5625243507866868349 2013932319062667186 h _ _ (by decide) (by decide) (jump4 h) (jump4 (lcgN 16 h))
theorem reach5 (h : Int) (hk : (h - 8) % 32 = 0) : ∃ m, m ≤ 32 ∧ (lcgN m h - 8) % 64 = 0 := by
  by_cases h2 : (h - 8) % 64 = 0
  · exact ⟨0, Nat.zero_le _, h2⟩
  · refine ⟨32, Nat.le_refl _, ?_⟩
    have hj := jump5 h
    have e : 10828933358287359105 * h + 982119659650238624 = h + 32 + 64 * (169202083723239986 * h + 15345619682034978) := by omega
    rw [e] at hj
    generalize 169202083723239986 * h + 15345619682034978 = w at hj
    clear e
    generalize lcgN 32 h = y at hj ⊢
    omega
theorem jump6 (h : Int) : lcgN 64 h % 18446744073709551616 = (4910590176156014849 * h + 10607473198416945472) % 18446744073709551616 := by
  have e : lcgN 64 h = lcgN 32 (lcgN 32 h) := lcgN_add 32 32 h
  rw [e]
  exact jump_comp 10828933358287359105 982119659650238624 4910590176156014849 10607473198416945472 6356991630049061161 576541220592626092 h _ _ (by decide) (by decide) (jump5 h) (jump5 (lcgN 32 h))
theorem reach6 (h : Int) (hk : (h - 8) % 64 = 0) : ∃ m, m ≤ 64 ∧ (lcgN m h - 8) % 128 = 0 := by
  by_cases h2 : (h - 8) % 128 = 0
  · exact ⟨0, Nat.zero_le _, h2⟩
  · refine ⟨64, Nat.le_refl _, ?_⟩
    have hj := jump6 h
    have e : 4910590176156014849 * h + 10607473198416945472 = h + 64 + 128 * (38363985751218866 * h + 82870884362632386) := by omega
    rw [e] at hj
    generalize 38363985751218866 * h + 82870884362632386 = w at hj
    clear e
    generalize lcgN 64 h = y at hj ⊢
    omega
theorem jump7 (h : Int) : lcgN 128 h % 18446744073709551616 = (9908147928152388097 * h + 6914523672464851584) % 18446744073709551616 := by
  have e : lcgN 128 h = lcgN 64 (lcgN 64 h) := lcgN_add 64 64 h
  rw [e]
  exact jump_comp 4910590176156014849 10607473198416945472 9908147928152388097 6914523672464851584 1307216914909514019 2823747837225219126 h _ _ (by decide) (by decide) (jump6 h) (jump6 (lcgN 64 h))
theorem reach7 (h : Int) (hk : (h - 8) % 128 = 0) : ∃ m, m ≤ 128 ∧ (lcgN m h - 8) % 256 = 0 := by
  by_cases h2 : (h - 8) % 256 = 0
  · exact ⟨0, Nat.zero_le _, h2⟩
  · refine ⟨128, Nat.le_refl _, ?_⟩
    have hj := jump7 h
    have e : 9908147928152388097 * h + 6914523672464851584 = h + 128 + 256 * (38703702844345266 * h + 27009858095565826) := by omega
    rw [e] at hj
    generalize 38703702844345266 * h + 27009858095565826 = w at hj
    clear e
    generalize lcgN 128 h = y at hj ⊢
    omega
theorem jump8 (h : Int) : lcgN 256 h % 18446744073709551616 = (146241703003251713 * h + 4689171378020353280) % 18446744073709551616 := by
  have e : lcgN 256 h = lcgN 128 (lcgN 128 h) := lcgN_add 128 128 h
  rw [e]
  exact jump_comp 9908147928152388097 6914523672464851584 146241703003251713 4689171378020353280 5321882006595685631 3713941231349029297 h _ _ (by decide) (by decide) (jump7 h) (jump7 (lcgN 128 h))
theorem reach8 (h : Int) (hk : (h - 8) % 256 = 0) : ∃ m, m ≤ 256 ∧ (lcgN m h - 8) % 512 = 0 := by
  by_cases h2 : (h - 8) % 512 = 0
  · exact ⟨0, Nat.zero_le _, h2⟩
  · refine ⟨256, Nat.le_refl _, ?_⟩
    have hj := jump8 h
    have e : 146241703003251713 * h + 4689171378020353280 = h + 256 + 512 * (285628326178226 * h + 9158537847696002) := by omega
    rw [e] at hj
    generalize 285628326178226 * h + 9158537847696002 = w at hj
    clear e
    generalize lcgN 256 h = y at hj ⊢
    omega
theorem jump9 (h : Int) : lcgN 512 h % 18446744073709551616 = (7321387688379467777 * h + 8103286608563669504) % 18446744073709551616 := by
  have e : lcgN 512 h = lcgN 256 (lcgN 256 h) := lcgN_add 256 256 h
  rw [e]
  exact jump_comp 146241703003251713 4689171378020353280 7321387688379467777 8103286608563669504 1159371844257962 37174712526810676 h _ _ (by decide) (by decide) (jump8 h) (jump8 (lcgN 256 h))
theorem reach9 (h : Int) (hk : (h - 8) % 512 = 0) : ∃ m, m ≤ 512 ∧ (lcgN m h - 8) % 1024 = 0 := by
  by_cases h2 : (h - 8) % 1024 = 0
  · exact ⟨0, Nat.zero_le _, h2⟩
  · refine ⟨512, Nat.le_refl _, ?_⟩
    have hj := jump9 h
    have e : 7321387688379467777 * h + 8103286608563669504 = h + 512 + 1024 * (7149792664433074 * h + 7913365828675458) := by omega
    rw [e] at hj
    generalize 7149792664433074 * h + 7913365828675458 = w at hj
    clear e
    generalize lcgN 512 h = y at hj ⊢
    omega
theorem jump10 (h : Int) : lcgN 1024 h % 18446744073709551616 = (12255457568021647361 * h + 7710372194127975424) % 18446744073709551616 := by
  have e : lcgN 1024 h = lcgN 512 (lcgN 512 h) := lcgN_add 512 512 h
  rw [e]
  exact jump_comp 7321387688379467777 8103286608563669504 12255457568021647361 7710372194127975424 2905809148181844848 3216139529788457993 h _ _ (by decide) (by decide) (jump9 h) (jump9 (lcgN 512 h))
theorem reach10 (h : Int) (hk : (h - 8) % 1024 = 0) : ∃ m, m ≤ 1024 ∧ (lcgN m h - 8) % 2048 = 0 := by
  by_cases h2 : (h - 8) % 2048 = 0
  · exact ⟨0, Nat.zero_le _, h2⟩
  · refine ⟨1024, Nat.le_refl _, ?_⟩
    have hj := jump10 h
    have e : 12255457568021647361 * h + 7710372194127975424 = h + 1024 + 2048 * (5984110140635570 * h + 3764830172914050) := by omega
    rw [e] at hj
    generalize 5984110140635570 * h + 3764830172914050 = w at hj
    clear e
    generalize lcgN 1024 h = y at hj ⊢
    omega
theorem jump11 (h : Int) : lcgN 2048 h % 18446744073709551616 = (9867978473775767553 * h + 16043993925053589504) % 18446744073709551616 := by
  have e : lcgN 2048 h = lcgN 1024 (lcgN 1024 h) := lcgN_add 1024 1024 h
  rw [e]
  exact jump_comp 12255457568021647361 7710372194127975424 9867978473775767553 16043993925053589504 8142154496285334373 5122537553576361474 h _ _ (by decide) (by decide) (jump10 h) (jump10 (lcgN 1024 h))
theorem reach11 (h : Int) (hk : (h - 8) % 2048 = 0) : ∃ m, m ≤ 2048 ∧ (lcgN m h - 8) % 4096 = 0 := by
  by_cases h2 : (h - 8) % 4096 = 0
  · exact ⟨0, Nat.zero_le _, h2⟩
  · refine ⟨2048, Nat.le_refl _, ?_⟩
    have hj := jump11 h
    have e : 9867978473775767553 * h + 16043993925053589504 = h + 2048 + 4096 * (2409174432074162 * h + 3916990704358786) := by omega
    rw [e] at hj
    generalize 2409174432074162 * h + 3916990704358786 = w at hj
    clear e
    generalize lcgN 2048 h = y at hj ⊢
    omega
theorem jump12 (h : Int) : lcgN 4096 h % 18446744073709551616 = (5088048636545613825 * h + 1993901509916512256) % 18446744073709551616 := by
  have e : lcgN 4096 h = lcgN 2048 (lcgN 2048 h) := lcgN_add 2048 2048 h
  rw [e]
  exact jump_comp 9867978473775767553 16043993925053589504 5088048636545613825 1993901509916512256 5278817701910030349 8582641253827524685 h _ _ (by decide) (by decide) (jump11 h) (jump11 (lcgN 2048 h))
theorem reach12 (h : Int) (hk : (h - 8) % 4096 = 0) : ∃ m, m ≤ 4096 ∧ (lcgN m h - 8) % 8192 = 0 := by
  by_cases h2 : (h - 8) % 8192 = 0
  · exact ⟨0, Nat.zero_le _, h2⟩
  · refine ⟨4096, Nat.le_refl _, ?_⟩
    have hj := jump12 h
    have e : 5088048636545613825 * h + 1993901509916512256 = h + 4096 + 8192 * (621099687078322 * h + 243396180409730) := by omega
    rw [e] at hj
    generalize 621099687078322 * h + 243396180409730 = w at hj
    clear e
    generalize lcgN 4096 h = y at hj ⊢
    omega
theorem jump13 (h : Int) : lcgN 8192 h % 18446744073709551616 = (2150478223927705601 * h + 13175896319671181312) % 18446744073709551616 := by
  have e : lcgN 8192 h = lcgN 4096 (lcgN 4096 h) := lcgN_add 4096 4096 h
  rw [e]
  exact jump_comp 5088048636545613825 1993901509916512256 2150478223927705601 13175896319671181312 1403404244370138289 549965230633615359 h _ _ (by decide) (by decide) (jump12 h) (jump12 (lcgN 4096 h))
theorem reach13 (h : Int) (hk : (h - 8) % 8192 = 0) : ∃ m, m ≤ 8192 ∧ (lcgN m h - 8) % 16384 = 0 := by
  by_cases h2 : (h - 8) % 16384 = 0
  · exact ⟨0, Nat.zero_le _, h2⟩
  · refine ⟨8192, Nat.le_refl _, ?_⟩
    have hj := jump13 h
    have e : 2150478223927705601 * h + 13175896319671181312 = h + 8192 + 16384 * (131254774409650 * h + 804192890604930) := by omega
    rw [e] at hj
    generalize 131254774409650 * h + 804192890604930 = w at hj
    clear e
    generalize lcgN 8192 h = y at hj ⊢
    omega
theorem jump14 (h : Int) : lcgN 16384 h % 18446744073709551616 = (9196835419631190017 * h + 1993366741509554176) % 18446744073709551616 := by
  have e : lcgN 16384 h = lcgN 8192 (lcgN 8192 h) := lcgN_add 8192 8192 h
  rw [e]
  exact jump_comp 2150478223927705601 13175896319671181312 9196835419631190017 1993366741509554176 250697715169053299 1536015136490379428 h _ _ (by decide) (by decide) (jump13 h) (jump13 (lcgN 8192 h))
theorem reach14 (h : Int) (hk : (h - 8) % 16384 = 0) : ∃ m, m ≤ 16384 ∧ (lcgN m h - 8) % 32768 = 0 := by
  by_cases h2 : (h - 8) % 32768 = 0
  · exact ⟨0, Nat.zero_le _, h2⟩
  · refine ⟨16384, Nat.le_refl _, ?_⟩
    have hj := jump14 h
    have e : 9196835419631190017 * h + 1993366741509554176 = h + 16384 + 32768 * (280665143421362 * h + 60832725265794) := by omega
    rw [e] at hj
    generalize 280665143421362 * h + 60832725265794 = w at hj
    clear e
    generalize lcgN 16384 h = y at hj ⊢
    omega
theorem jump15 (h : Int) : lcgN 32768 h % 18446744073709551616 = (5957860013156466689 * h + 7241871532530761728) % 18446744073709551616 := by
  have e : lcgN 32768 h = lcgN 16384 (lcgN 16384 h) := lcgN_add 16384 16384 h
  rw [e]
  exact jump_comp 9196835419631190017 1993366741509554176 5957860013156466689 7241871532530761728 4585187575531523975 993815807243606840 h _ _ (by decide) (by decide) (jump14 h) (jump14 (lcgN 16384 h))
theorem reach15 (h : Int) (hk : (h - 8) % 32768 = 0) : ∃ m, m ≤ 32768 ∧ (lcgN m h - 8) % 65536 = 0 := by
  by_cases h2 : (h - 8) % 65536 = 0
  · exact ⟨0, Nat.zero_le _, h2⟩
  · refine ⟨32768, Nat.le_refl _, ?_⟩
    have hj := jump15 h
    have e : 5957860013156466689 * h + 7241871532530761728 = h + 32768 + 65536 * (90909729204658 * h + 110502190132610) := by omega
    rw [e] at hj
    generalize 90909729204658 * h + 110502190132610 = w at hj
    clear e
    generalize lcgN 32768 h = y at hj ⊢
    omega
theorem jump16 (h : Int) : lcgN 65536 h % 18446744073709551616 = (10389140232424652801 * h + 9829074100562493440) % 18446744073709551616 := by
  have e : lcgN 65536 h = lcgN 32768 (lcgN 32768 h) := lcgN_add 32768 32768 h
  rw [e]
  exact jump_comp 5957860013156466689 7241871532530761728 10389140232424652801 9829074100562493440 1924247216448245495 2338952427142591180 h _ _ (by decide) (by decide) (jump15 h) (jump15 (lcgN 32768 h))
theorem reach16 (h : Int) (hk : (h - 8) % 65536 = 0) : ∃ m, m ≤ 65536 ∧ (lcgN m h - 8) % 131072 = 0 := by
  by_cases h2 : (h - 8) % 131072 = 0
  · exact ⟨0, Nat.zero_le _, h2⟩
  · refine ⟨65536, Nat.le_refl _, ?_⟩
    have hj := jump16 h
    have e : 10389140232424652801 * h + 9829074100562493440 = h + 65536 + 131072 * (79262849673650 * h + 74989884190082) := by omega
    rw [e] at hj
    generalize 79262849673650 * h + 74989884190082 = w at hj
    clear e
    generalize lcgN 65536 h = y at hj ⊢
    omega
theorem jump17 (h : Int) : lcgN 131072 h % 18446744073709551616 = (13023643825678581761 * h + 7211655632440131584) % 18446744073709551616 := by
  have e : lcgN 131072 h = lcgN 65536 (lcgN 65536 h) := lcgN_add 65536 65536 h
  rw [e]
  exact jump_comp 10389140232424652801 9829074100562493440 13023643825678581761 7211655632440131584 5851126591104676865 5535699350389588606 h _ _ (by decide) (by decide) (jump16 h) (jump16 (lcgN 65536 h))
theorem reach17 (h : Int) (hk : (h - 8) % 131072 = 0) : ∃ m, m ≤ 131072 ∧ (lcgN m h - 8) % 262144 = 0 := by
  by_cases h2 : (h - 8) % 262144 = 0
  · exact ⟨0, Nat.zero_le _, h2⟩
  · refine ⟨131072, Nat.le_refl _, ?_⟩
    have hj := jump17 h
    have e : 13023643825678581761 * h + 7211655632440131584 = h + 131072 + 262144 * (49681258490290 * h + 27510283021698) := by omega
    rw [e] at hj
    generalize 49681258490290 * h + 27510283021698 = w at hj
    clear e
    generalize lcgN 131072 h = y at hj ⊢
    omega
theorem jump18 (h : Int) : lcgN 262144 h % 18446744073709551616 = (288945459443007489 * h + 14014807304630960128) % 18446744073709551616 := by
  have e : lcgN 262144 h = lcgN 131072 (lcgN 131072 h) := lcgN_add 131072 131072 h
  rw [e]
  exact jump_comp 13023643825678581761 7211655632440131584 288945459443007489 14014807304630960128 9194863755922810027 5091523684345332680 h _ _ (by decide) (by decide) (jump17 h) (jump17 (lcgN 131072 h))
theorem reach18 (h : Int) (hk : (h - 8) % 262144 = 0) : ∃ m, m ≤ 262144 ∧ (lcgN m h - 8) % 524288 = 0 := by
  by_cases h2 : (h - 8) % 524288 = 0
  · exact ⟨0, Nat.zero_le _, h2⟩
  · refine ⟨262144, Nat.le_refl _, ?_⟩
    have hj := jump18 h
    have e : 288945459443007489 * h + 14014807304630960128 = h + 262144 + 524288 * (551119727026 * h + 26731123551618) := by omega
    rw [e] at hj
    generalize 551119727026 * h + 26731123551618 = w at hj
    clear e
    generalize lcgN 262144 h = y at hj ⊢
    omega
theorem jump19 (h : Int) : lcgN 524288 h % 18446744073709551616 = (13413133364217511937 * h + 15586959662575517696) % 18446744073709551616 := by
  have e : lcgN 524288 h = lcgN 262144 (lcgN 262144 h) := lcgN_add 262144 262144 h
  rw [e]
  exact jump_comp 288945459443007489 14014807304630960128 13413133364217511937 15586959662575517696 4525973700243424 219524644536767414 h _ _ (by decide) (by decide) (jump18 h) (jump18 (lcgN 262144 h))
theorem reach19 (h : Int) (hk : (h - 8) % 524288 = 0) : ∃ m, m ≤ 524288 ∧ (lcgN m h - 8) % 1048576 = 0 := by
  by_cases h2 : (h - 8) % 1048576 = 0
  · exact ⟨0, Nat.zero_le _, h2⟩
  · refine ⟨524288, Nat.le_refl _, ?_⟩
    have hj := jump19 h
    have e : 13413133364217511937 * h + 15586959662575517696 = h + 524288 + 1048576 * (12791760791986 * h + 14864883101058) := by omega
    rw [e] at hj
    generalize 12791760791986 * h + 14864883101058 = w at hj
    clear e
    generalize lcgN 524288 h = y at hj ⊢
    omega
theorem jump20 (h : Int) : lcgN 1048576 h % 18446744073709551616 = (8991946233350193153 * h + 5614651135149211648) % 18446744073709551616 := by
  have e : lcgN 1048576 h = lcgN 524288 (lcgN 524288 h) := lcgN_add 524288 524288 h
  rw [e]
  exact jump_comp 13413133364217511937 15586959662575517696 8991946233350193153 5614651135149211648 9753057012521642326 11333705713127576450 h _ _ (by decide) (by decide) (jump19 h) (jump19 (lcgN 524288 h))
theorem reach20 (h : Int) (hk : (h - 8) % 1048576 = 0) : ∃ m, m ≤ 1048576 ∧ (lcgN m h - 8) % 2097152 = 0 := by
  by_cases h2 : (h - 8) % 2097152 = 0
  · exact ⟨0, Nat.zero_le _, h2⟩
  · refine ⟨1048576, Nat.le_refl _, ?_⟩
    have hj := jump20 h
    have e : 8991946233350193153 * h + 5614651135149211648 = h + 1048576 + 2097152 * (4287694088626 * h + 2677274291586) := by omega
    rw [e] at hj
    generalize 4287694088626 * h + 2677274291586 = w at hj
    clear e
    generalize lcgN 1048576 h = y at hj ⊢
    omega
theorem jump21 (h : Int) : lcgN 2097152 h % 18446744073709551616 = (1986842707489718273 * h + 10449321915693662208) % 18446744073709551616 := by
  have e : lcgN 2097152 h = lcgN 1048576 (lcgN 1048576 h) := lcgN_add 1048576 1048576 h
  rw [e]
  exact jump_comp 8991946233350193153 5614651135149211648 1986842707489718273 10449321915693662208 4383163594636522471 2736886299530457949 h _ _ (by decide) (by decide) (jump20 h) (jump20 (lcgN 1048576 h))
theorem reach21 (h : Int) (hk : (h - 8) % 2097152 = 0) : ∃ m, m ≤ 2097152 ∧ (lcgN m h - 8) % 4194304 = 0 := by
  by_cases h2 : (h - 8) % 4194304 = 0
  · exact ⟨0, Nat.zero_le _, h2⟩
  · refine ⟨2097152, Nat.le_refl _, ?_⟩
    have hj := jump21 h
    have e : 1986842707489718273 * h + 10449321915693662208 = h + 2097152 + 4194304 * (473700215218 * h + 2491312483714) := by omega
    rw [e] at hj
    generalize 473700215218 * h + 2491312483714 = w at hj
    clear e
    generalize lcgN 2097152 h = y at hj ⊢
    omega
theorem jump22 (h : Int) : lcgN 4194304 h % 18446744073709551616 = (13772462672974970881 * h + 17778722412968280064) % 18446744073709551616 := by
  have e : lcgN 4194304 h = lcgN 2097152 (lcgN 2097152 h) := lcgN_add 2097152 2097152 h
  rw [e]
  exact jump_comp 1986842707489718273 10449321915693662208 13772462672974970881 17778722412968280064 213996786019877928 1125464687071656008 h _ _ (by decide) (by decide) (jump21 h) (jump21 (lcgN 2097152 h))
theorem reach22 (h : Int) (hk : (h - 8) % 4194304 = 0) : ∃ m, m ≤ 4194304 ∧ (lcgN m h - 8) % 8388608 = 0 := by
  by_cases h2 : (h - 8) % 8388608 = 0
  · exact ⟨0, Nat.zero_le _, h2⟩
  · refine ⟨4194304, Nat.le_refl _, ?_⟩
    have hj := jump22 h
    have e : 13772462672974970881 * h + 17778722412968280064 = h + 4194304 + 8388608 * (1641805490610 * h + 2119388867970) := by omega
    rw [e] at hj
    generalize 1641805490610 * h + 2119388867970 = w at hj
    clear e
    generalize lcgN 4194304 h = y at hj ⊢
    omega
theorem jump23 (h : Int) : lcgN 8388608 h % 18446744073709551616 = (11399802156803424257 * h + 4631015078550831104) % 18446744073709551616 := by
  have e : lcgN 8388608 h = lcgN 4194304 (lcgN 4194304 h) := lcgN_add 4194304 4194304 h
  rw [e]
  exact jump_comp 13772462672974970881 17778722412968280064 11399802156803424257 4631015078550831104 10282612873066493219 13273713226973263809 h _ _ (by decide) (by decide) (jump22 h) (jump22 (lcgN 4194304 h))
theorem reach23 (h : Int) (hk : (h - 8) % 8388608 = 0) : ∃ m, m ≤ 8388608 ∧ (lcgN m h - 8) % 16777216 = 0 := by
  by_cases h2 : (h - 8) % 16777216 = 0
  · exact ⟨0, Nat.zero_le _, h2⟩
  · refine ⟨8388608, Nat.le_refl _, ?_⟩
    have hj := jump23 h
    have e : 11399802156803424257 * h + 4631015078550831104 = h + 8388608 + 16777216 * (679481158066 * h + 276030008706) := by omega
    rw [e] at hj
    generalize 679481158066 * h + 276030008706 = w at hj
    clear e
    generalize lcgN 8388608 h = y at hj ⊢
    omega
theorem jump24 (h : Int) : lcgN 16777216 h % 18446744073709551616 = (13559343778149433345 * h + 14683519683525607424) % 18446744073709551616 := by
  have e : lcgN 16777216 h = lcgN 8388608 (lcgN 8388608 h) := lcgN_add 8388608 8388608 h
  rw [e]
  exact jump_comp 11399802156803424257 4631015078550831104 13559343778149433345 14683519683525607424 7044901186625861769 2861895599012156413 h _ _ (by decide) (by decide) (jump23 h) (jump23 (lcgN 8388608 h))
theorem reach24 (h : Int) (hk : (h - 8) % 16777216 = 0) : ∃ m, m ≤ 16777216 ∧ (lcgN m h - 8) % 33554432 = 0 := by
  by_cases h2 : (h - 8) % 33554432 = 0
  · exact ⟨0, Nat.zero_le _, h2⟩
  · refine ⟨16777216, Nat.le_refl _, ?_⟩
    have hj := jump24 h
    have e : 13559343778149433345 * h + 14683519683525607424 = h + 16777216 + 33554432 * (404099934642 * h + 437602987394) := by omega
    rw [e] at hj
    generalize 404099934642 * h + 437602987394 = w at hj
    clear e
    generalize lcgN 16777216 h = y at hj ⊢
    omega
theorem jump25 (h : Int) : lcgN 33554432 h % 18446744073709551616 = (8604389488178757633 * h + 14159509325327892480) % 18446744073709551616 := by
  have e : lcgN 33554432 h = lcgN 16777216 (lcgN 16777216 h) := lcgN_add 16777216 16777216 h
  rw [e]
  exact jump_comp 13559343778149433345 14683519683525607424 8604389488178757633 14159509325327892480 9966843089457316387 10793172522293786614 h _ _ (by decide) (by decide) (jump24 h) (jump24 (lcgN 16777216 h))
theorem reach25 (h : Int) (hk : (h - 8) % 33554432 = 0) : ∃ m, m ≤ 33554432 ∧ (lcgN m h - 8) % 67108864 = 0 := by
  by_cases h2 : (h - 8) % 67108864 = 0
  · exact ⟨0, Nat.zero_le _, h2⟩
  · refine ⟨33554432, Nat.le_refl _, ?_⟩
    have hj := jump25 h
    have e : 8604389488178757633 * h + 14159509325327892480 = h + 33554432 + 67108864 * (128215394738 * h + 210993130882) := by omega
    rw [e] at hj
    generalize 128215394738 * h + 210993130882 = w at hj
    clear e
    generalize lcgN 33554432 h = y at hj ⊢
    omega
theorem jump26 (h : Int) : lcgN 67108864 h % 18446744073709551616 = (16938562998715285505 * h + 4382386631181598720) % 18446744073709551616 := by
  have e : lcgN 67108864 h = lcgN 33554432 (lcgN 33554432 h) := lcgN_add 33554432 33554432 h
  rw [e]
  exact jump_comp 8604389488178757633 14159509325327892480 16938562998715285505 4382386631181598720 4013473498003212424 6604630752711483350 h _ _ (by decide) (by decide) (jump25 h) (jump25 (lcgN 33554432 h))
theorem reach26 (h : Int) (hk : (h - 8) % 67108864 = 0) : ∃ m, m ≤ 67108864 ∧ (lcgN m h - 8) % 134217728 = 0 := by
  by_cases h2 : (h - 8) % 134217728 = 0
  · exact ⟨0, Nat.zero_le _, h2⟩
  · refine ⟨67108864, Nat.le_refl _, ?_⟩
    have hj := jump26 h
    have e : 16938562998715285505 * h + 4382386631181598720 = h + 67108864 + 134217728 * (126202128818 * h + 32651324802) := by omega
    rw [e] at hj
    generalize 126202128818 * h + 32651324802 = w at hj
    clear e
    generalize lcgN 67108864 h = y at hj ⊢
    omega
theorem jump27 (h : Int) : lcgN 134217728 h % 18446744073709551616 = (14349518013152100353 * h + 5251965553014210560) % 18446744073709551616 := by
  have e : lcgN 134217728 h = lcgN 67108864 (lcgN 67108864 h) := lcgN_add 67108864 67108864 h
  rw [e]
  exact jump_comp 16938562998715285505 4382386631181598720 14349518013152100353 5251965553014210560 15553688787299869217 4024088573050257235 h _ _ (by decide) (by decide) (jump26 h) (jump26 (lcgN 67108864 h))
theorem reach27 (h : Int) (hk : (h - 8) % 134217728 = 0) : ∃ m, m ≤ 134217728 ∧ (lcgN m h - 8) % 268435456 = 0 := by
  by_cases h2 : (h - 8) % 268435456 = 0
  · exact ⟨0, Nat.zero_le _, h2⟩
  · refine ⟨134217728, Nat.le_refl _, ?_⟩
    have hj := jump27 h
    have e : 14349518013152100353 * h + 5251965553014210560 = h + 134217728 + 268435456 * (53456120242 * h + 19565096322) := by omega
    rw [e] at hj
    generalize 53456120242 * h + 19565096322 = w at hj
    clear e
    generalize lcgN 134217728 h = y at hj ⊢
    omega
theorem jump28 (h : Int) : lcgN 268435456 h % 18446744073709551616 = (5928836310318972929 * h + 14899444342342025216) % 18446744073709551616 := by
  have e : lcgN 268435456 h = lcgN 134217728 (lcgN 134217728 h) := lcgN_add 134217728 134217728 h
  rw [e]
  exact jump_comp 14349518013152100353 5251965553014210560 5928836310318972929 14899444342342025216 11162331216121727105 4085445865476062539 h _ _ (by decide) (by decide) (jump27 h) (jump27 (lcgN 134217728 h))
theorem reach28 (h : Int) (hk : (h - 8) % 268435456 = 0) : ∃ m, m ≤ 268435456 ∧ (lcgN m h - 8) % 536870912 = 0 := by
  by_cases h2 : (h - 8) % 536870912 = 0
  · exact ⟨0, Nat.zero_le _, h2⟩
  · refine ⟨268435456, Nat.le_refl _, ?_⟩
    have hj := jump28 h
    have e : 5928836310318972929 * h + 14899444342342025216 = h + 268435456 + 536870912 * (11043318194 * h + 27752377730) := by omega
    rw [e] at hj
    generalize 11043318194 * h + 27752377730 = w at hj
    clear e
    generalize lcgN 268435456 h = y at hj ⊢
    omega
theorem jump29 (h : Int) : lcgN 536870912 h % 18446744073709551616 = (13010594125244792833 * h + 10487453482519363584) % 18446744073709551616 := by
  have e : lcgN 536870912 h = lcgN 268435456 (lcgN 268435456 h) := lcgN_add 268435456 268435456 h
  rw [e]
  exact jump_comp 5928836310318972929 14899444342342025216 13010594125244792833 10487453482519363584 1905544948967678463 4788724029968610606 h _ _ (by decide) (by decide) (jump28 h) (jump28 (lcgN 268435456 h))
theorem reach29 (h : Int) (hk : (h - 8) % 536870912 = 0) : ∃ m, m ≤ 536870912 ∧ (lcgN m h - 8) % 1073741824 = 0 := by
  by_cases h2 : (h - 8) % 1073741824 = 0
  · exact ⟨0, Nat.zero_le _, h2⟩
  · refine ⟨536870912, Nat.le_refl _, ?_⟩
    have hj := jump29 h
    have e : 13010594125244792833 * h + 10487453482519363584 = h + 536870912 + 1073741824 * (12117060018 * h + 9767202178) := by omega
    rw [e] at hj
    generalize 12117060018 * h + 9767202178 = w at hj
    clear e
    generalize lcgN 536870912 h = y at hj ⊢
    omega
theorem jump30 (h : Int) : lcgN 1073741824 h % 18446744073709551616 = (12186130195207421953 * h + 17516142451218186240) % 18446744073709551616 := by
  have e : lcgN 1073741824 h = lcgN 536870912 (lcgN 536870912 h) := lcgN_add 536870912 536870912 h
  rw [e]
  exact jump_comp 13010594125244792833 10487453482519363584 12186130195207421953 17516142451218186240 9176446467488385021 7396860937801553076 h _ _ (by decide) (by decide) (jump29 h) (jump29 (lcgN 536870912 h))
theorem reach30 (h : Int) (hk : (h - 8) % 1073741824 = 0) : ∃ m, m ≤ 1073741824 ∧ (lcgN m h - 8) % 2147483648 = 0 := by
  by_cases h2 : (h - 8) % 2147483648 = 0
  · exact ⟨0, Nat.zero_le _, h2⟩
  · refine ⟨1073741824, Nat.le_refl _, ?_⟩
    have hj := jump30 h
    have e : 12186130195207421953 * h + 17516142451218186240 = h + 1073741824 + 2147483648 * (5674609074 * h + 8156589442) := by omega
    rw [e] at hj
    generalize 5674609074 * h + 8156589442 = w at hj
    clear e
    generalize lcgN 1073741824 h = y at hj ⊢
    omega
theorem jump31 (h : Int) : lcgN 2147483648 h % 18446744073709551616 = (5925516316705292289 * h + 2750482773444657152) % 18446744073709551616 := by
  have e : lcgN 2147483648 h = lcgN 1073741824 (lcgN 1073741824 h) := lcgN_add 1073741824 1073741824 h
  rw [e]
  exact jump_comp 12186130195207421953 17516142451218186240 5925516316705292289 2750482773444657152 8050297035680784370 11571364115825775313 h _ _ (by decide) (by decide) (jump30 h) (jump30 (lcgN 1073741824 h))
theorem reach31 (h : Int) (hk : (h - 8) % 2147483648 = 0) : ∃ m, m ≤ 2147483648 ∧ (lcgN m h - 8) % 4294967296 = 0 := by
  by_cases h2 : (h - 8) % 4294967296 = 0
  · exact ⟨0, Nat.zero_le _, h2⟩
  · refine ⟨2147483648, Nat.le_refl _, ?_⟩
    have hj := jump31 h
    have e : 5925516316705292289 * h + 2750482773444657152 = h + 2147483648 + 4294967296 * (1379641778 * h + 640396674) := by omega
    rw [e] at hj
    generalize 1379641778 * h + 640396674 = w at hj
    clear e
    generalize lcgN 2147483648 h = y at hj ⊢
    omega
theorem jump32 (h : Int) : lcgN 4294967296 h % 18446744073709551616 = (11851032633410584577 * h + 5500965546889314304) % 18446744073709551616 := by
  have e : lcgN 4294967296 h = lcgN 2147483648 (lcgN 2147483648 h) := lcgN_add 2147483648 2147483648 h
  rw [e]
  exact jump_comp 5925516316705292289 2750482773444657152 11851032633410584577 5500965546889314304 1903411435603001284 883518006632467261 h _ _ (by decide) (by decide) (jump31 h) (jump31 (lcgN 2147483648 h))
theorem reach32 (h : Int) (hk : (h - 8) % 4294967296 = 0) : ∃ m, m ≤ 4294967296 ∧ (lcgN m h - 8) % 8589934592 = 0 := by
  by_cases h2 : (h - 8) % 8589934592 = 0
  · exact ⟨0, Nat.zero_le _, h2⟩
  · refine ⟨4294967296, Nat.le_refl _, ?_⟩
    have hj := jump32 h
    have e : 11851032633410584577 * h + 5500965546889314304 = h + 4294967296 + 8589934592 * (1379641778 * h + 640396674) := by omega
    rw [e] at hj
    generalize 1379641778 * h + 640396674 = w at hj
    clear e
    generalize lcgN 4294967296 h = y at hj ⊢
    omega
theorem jump33 (h : Int) : lcgN 8589934592 h % 18446744073709551616 = (5255321193111617537 * h + 11001931093778628608) % 18446744073709551616 := by
  have e : lcgN 8589934592 h = lcgN 4294967296 (lcgN 4294967296 h) := lcgN_add 4294967296 4294967296 h
  rw [e]
  exact jump_comp 11851032633410584577 5500965546889314304 5255321193111617537 11001931093778628608 7613645742412005137 3534072026529869044 h _ _ (by decide) (by decide) (jump32 h) (jump32 (lcgN 4294967296 h))
theorem reach33 (h : Int) (hk : (h - 8) % 8589934592 = 0) : ∃ m, m ≤ 8589934592 ∧ (lcgN m h - 8) % 17179869184 = 0 := by
  by_cases h2 : (h - 8) % 17179869184 = 0
  · exact ⟨0, Nat.zero_le _, h2⟩
  · refine ⟨8589934592, Nat.le_refl _, ?_⟩
    have hj := jump33 h
    have e : 5255321193111617537 * h + 11001931093778628608 = h + 8589934592 + 17179869184 * (305899954 * h + 640396674) := by omega
    rw [e] at hj
    generalize 305899954 * h + 640396674 = w at hj
    clear e
    generalize lcgN 8589934592 h = y at hj ⊢
    omega
theorem jump34 (h : Int) : lcgN 17179869184 h % 18446744073709551616 = (10510642386223235073 * h + 3557118113847705600) % 18446744073709551616 := by
  have e : lcgN 17179869184 h = lcgN 8589934592 (lcgN 8589934592 h) := lcgN_add 8589934592 8589934592 h
  rw [e]
  exact jump_comp 5255321193111617537 11001931093778628608 10510642386223235073 3557118113847705600 1497196509715233856 3134357012340847569 h _ _ (by decide) (by decide) (jump33 h) (jump33 (lcgN 8589934592 h))
theorem reach34 (h : Int) (hk : (h - 8) % 17179869184 = 0) : ∃ m, m ≤ 17179869184 ∧ (lcgN m h - 8) % 34359738368 = 0 := by
  by_cases h2 : (h - 8) % 34359738368 = 0
  · exact ⟨0, Nat.zero_le _, h2⟩
  · refine ⟨17179869184, Nat.le_refl _, ?_⟩
    have hj := jump34 h
    have e : 10510642386223235073 * h + 3557118113847705600 = h + 17179869184 + 34359738368 * (305899954 * h + 103525762) := by omega
    rw [e] at hj
    generalize 305899954 * h + 103525762 = w at hj
    clear e
    generalize lcgN 17179869184 h = y at hj ⊢
    omega
theorem jump35 (h : Int) : lcgN 34359738368 h % 18446744073709551616 = (2574540698736918529 * h + 7114236227695411200) % 18446744073709551616 := by
  have e : lcgN 34359738368 h = lcgN 17179869184 (lcgN 17179869184 h) := lcgN_add 17179869184 17179869184 h
  rw [e]
  exact jump_comp 10510642386223235073 3557118113847705600 2574540698736918529 7114236227695411200 5988786038860935425 2026785663140155200 h _ _ (by decide) (by decide) (jump34 h) (jump34 (lcgN 17179869184 h))
theorem reach35 (h : Int) (hk : (h - 8) % 34359738368 = 0) : ∃ m, m ≤ 34359738368 ∧ (lcgN m h - 8) % 68719476736 = 0 := by
  by_cases h2 : (h - 8) % 68719476736 = 0
  · exact ⟨0, Nat.zero_le _, h2⟩
  · refine ⟨34359738368, Nat.le_refl _, ?_⟩
    have hj := jump35 h
    have e : 2574540698736918529 * h + 7114236227695411200 = h + 34359738368 + 68719476736 * (37464498 * h + 103525762) := by omega
    rw [e] at hj
    generalize 37464498 * h + 103525762 = w at hj
    clear e
    generalize lcgN 34359738368 h = y at hj ⊢
    omega
theorem jump36 (h : Int) : lcgN 68719476736 h % 18446744073709551616 = (5149081397473837057 * h + 14228472455390822400) % 18446744073709551616 := by
  have e : lcgN 68719476736 h = lcgN 34359738368 (lcgN 34359738368 h) := lcgN_add 34359738368 34359738368 h
  rw [e]
  exact jump_comp 2574540698736918529 7114236227695411200 5149081397473837057 14228472455390822400 359318684260353024 992906424865209600 h _ _ (by decide) (by decide) (jump35 h) (jump35 (lcgN 34359738368 h))
theorem reach36 (h : Int) (hk : (h - 8) % 68719476736 = 0) : ∃ m, m ≤ 68719476736 ∧ (lcgN m h - 8) % 137438953472 = 0 := by
  by_cases h2 : (h - 8) % 137438953472 = 0
  · exact ⟨0, Nat.zero_le _, h2⟩
  · refine ⟨68719476736, Nat.le_refl _, ?_⟩
    have hj := jump36 h
    have e : 5149081397473837057 * h + 14228472455390822400 = h + 68719476736 + 137438953472 * (37464498 * h + 103525762) := by omega
    rw [e] at hj
    generalize 37464498 * h + 103525762 = w at hj
    clear e
    generalize lcgN 68719476736 h = y at hj ⊢
    omega
theorem jump37 (h : Int) : lcgN 137438953472 h % 18446744073709551616 = (10298162794947674113 * h + 10010200837072093184) % 18446744073709551616 := by
  have e : lcgN 137438953472 h = lcgN 68719476736 (lcgN 68719476736 h) := lcgN_add 68719476736 68719476736 h
  rw [e]
  exact jump_comp 5149081397473837057 14228472455390822400 10298162794947674113 10010200837072093184 1437274737041412096 3971625699460838401 h _ _ (by decide) (by decide) (jump36 h) (jump36 (lcgN 68719476736 h))
theorem reach37 (h : Int) (hk : (h - 8) % 137438953472 = 0) : ∃ m, m ≤ 137438953472 ∧ (lcgN m h - 8) % 274877906944 = 0 := by
  by_cases h2 : (h - 8) % 274877906944 = 0
  · exact ⟨0, Nat.zero_le _, h2⟩
  · refine ⟨137438953472, Nat.le_refl _, ?_⟩
    have hj := jump37 h
    have e : 10298162794947674113 * h + 10010200837072093184 = h + 137438953472 + 274877906944 * (37464498 * h + 36416898) := by omega
    rw [e] at hj
    generalize 37464498 * h + 36416898 = w at hj
    clear e
    generalize lcgN 137438953472 h = y at hj ⊢
    omega
theorem jump38 (h : Int) : lcgN 274877906944 h % 18446744073709551616 = (2149581516185796609 * h + 1573657600434634752) % 18446744073709551616 := by
  have e : lcgN 274877906944 h = lcgN 137438953472 (lcgN 137438953472 h) := lcgN_add 137438953472 137438953472 h
  rw [e]
  exact jump_comp 10298162794947674113 10010200837072093184 2149581516185796609 1573657600434634752 5749098948165648385 5588340002895679489 h _ _ (by decide) (by decide) (jump37 h) (jump37 (lcgN 137438953472 h))
theorem reach38 (h : Int) (hk : (h - 8) % 274877906944 = 0) : ∃ m, m ≤ 274877906944 ∧ (lcgN m h - 8) % 549755813888 = 0 := by
  by_cases h2 : (h - 8) % 549755813888 = 0
  · exact ⟨0, Nat.zero_le _, h2⟩
  · refine ⟨274877906944, Nat.le_refl _, ?_⟩
    have hj := jump38 h
    have e : 2149581516185796609 * h + 1573657600434634752 = h + 274877906944 + 549755813888 * (3910066 * h + 2862466) := by omega
    rw [e] at hj
    generalize 3910066 * h + 2862466 = w at hj
    clear e
    generalize lcgN 274877906944 h = y at hj ⊢
    omega
theorem jump39 (h : Int) : lcgN 549755813888 h % 18446744073709551616 = (4299163032371593217 * h + 3147315200869269504) % 18446744073709551616 := by
  have e : lcgN 549755813888 h = lcgN 274877906944 (lcgN 274877906944 h) := lcgN_add 274877906944 274877906944 h
  rw [e]
  exact jump_comp 2149581516185796609 1573657600434634752 4299163032371593217 3147315200869269504 250488686581448704 183376821252734976 h _ _ (by decide) (by decide) (jump38 h) (jump38 (lcgN 274877906944 h))
theorem reach39 (h : Int) (hk : (h - 8) % 549755813888 = 0) : ∃ m, m ≤ 549755813888 ∧ (lcgN m h - 8) % 1099511627776 = 0 := by
  by_cases h2 : (h - 8) % 1099511627776 = 0
  · exact ⟨0, Nat.zero_le _, h2⟩
  · refine ⟨549755813888, Nat.le_refl _, ?_⟩
    have hj := jump39 h
    have e : 4299163032371593217 * h + 3147315200869269504 = h + 549755813888 + 1099511627776 * (3910066 * h + 2862466) := by omega
    rw [e] at hj
    generalize 3910066 * h + 2862466 = w at hj
    clear e
    generalize lcgN 549755813888 h = y at hj ⊢
    omega
theorem jump40 (h : Int) : lcgN 1099511627776 h % 18446744073709551616 = (8598326064743186433 * h + 6294630401738539008) % 18446744073709551616 := by
  have e : lcgN 1099511627776 h = lcgN 549755813888 (lcgN 549755813888 h) := lcgN_add 549755813888 549755813888 h
  rw [e]
  exact jump_comp 4299163032371593217 3147315200869269504 8598326064743186433 6294630401738539008 1001954746325794816 733507285010939904 h _ _ (by decide) (by decide) (jump39 h) (jump39 (lcgN 549755813888 h))
theorem reach40 (h : Int) (hk : (h - 8) % 1099511627776 = 0) : ∃ m, m ≤ 1099511627776 ∧ (lcgN m h - 8) % 2199023255552 = 0 := by
  by_cases h2 : (h - 8) % 2199023255552 = 0
  · exact ⟨0, Nat.zero_le _, h2⟩
  · refine ⟨1099511627776, Nat.le_refl _, ?_⟩
    have hj := jump40 h
    have e : 8598326064743186433 * h + 6294630401738539008 = h + 1099511627776 + 2199023255552 * (3910066 * h + 2862466) := by omega
    rw [e] at hj
    generalize 3910066 * h + 2862466 = w at hj
    clear e
    generalize lcgN 1099511627776 h = y at hj ⊢
    omega
theorem jump41 (h : Int) : lcgN 2199023255552 h % 18446744073709551616 = (17196652129486372865 * h + 12589260803477078016) % 18446744073709551616 := by
  have e : lcgN 2199023255552 h = lcgN 1099511627776 (lcgN 1099511627776 h) := lcgN_add 1099511627776 1099511627776 h
  rw [e]
  exact jump_comp 8598326064743186433 6294630401738539008 17196652129486372865 12589260803477078016 4007818985303179264 2934029140043759616 h _ _ (by decide) (by decide) (jump40 h) (jump40 (lcgN 1099511627776 h))
theorem reach41 (h : Int) (hk : (h - 8) % 2199023255552 = 0) : ∃ m, m ≤ 2199023255552 ∧ (lcgN m h - 8) % 4398046511104 = 0 := by
  by_cases h2 : (h - 8) % 4398046511104 = 0
  · exact ⟨0, Nat.zero_le _, h2⟩
  · refine ⟨2199023255552, Nat.le_refl _, ?_⟩
    have hj := jump41 h
    have e : 17196652129486372865 * h + 12589260803477078016 = h + 2199023255552 + 4398046511104 * (3910066 * h + 2862466) := by omega
    rw [e] at hj
    generalize 3910066 * h + 2862466 = w at hj
    clear e
    generalize lcgN 2199023255552 h = y at hj ⊢
    omega
theorem jump42 (h : Int) : lcgN 4398046511104 h % 18446744073709551616 = (15946560185263194113 * h + 6731777533244604416) % 18446744073709551616 := by
  have e : lcgN 4398046511104 h = lcgN 2199023255552 (lcgN 2199023255552 h) := lcgN_add 2199023255552 2199023255552 h
  rw [e]
  exact jump_comp 17196652129486372865 12589260803477078016 15946560185263194113 6731777533244604416 16031275941212717057 11736116560175038465 h _ _ (by decide) (by decide) (jump41 h) (jump41 (lcgN 2199023255552 h))
theorem reach42 (h : Int) (hk : (h - 8) % 4398046511104 = 0) : ∃ m, m ≤ 4398046511104 ∧ (lcgN m h - 8) % 8796093022208 = 0 := by
  by_cases h2 : (h - 8) % 8796093022208 = 0
  · exact ⟨0, Nat.zero_le _, h2⟩
  · refine ⟨4398046511104, Nat.le_refl _, ?_⟩
    have hj := jump42 h
    have e : 15946560185263194113 * h + 6731777533244604416 = h + 4398046511104 + 8796093022208 * (1812914 * h + 765314) := by omega
    rw [e] at hj
    generalize 1812914 * h + 765314 = w at hj
    clear e
    generalize lcgN 4398046511104 h = y at hj ⊢
    omega
theorem jump43 (h : Int) : lcgN 8796093022208 h % 18446744073709551616 = (13446376296816836609 * h + 13463555066489208832) % 18446744073709551616 := by
  have e : lcgN 8796093022208 h = lcgN 4398046511104 (lcgN 4398046511104 h) := lcgN_add 4398046511104 4398046511104 h
  rw [e]
  exact jump_comp 15946560185263194113 6731777533244604416 13446376296816836609 13463555066489208832 13785239320614928385 5819384448482803712 h _ _ (by decide) (by decide) (jump42 h) (jump42 (lcgN 4398046511104 h))
theorem reach43 (h : Int) (hk : (h - 8) % 8796093022208 = 0) : ∃ m, m ≤ 8796093022208 ∧ (lcgN m h - 8) % 17592186044416 = 0 := by
  by_cases h2 : (h - 8) % 17592186044416 = 0
  · exact ⟨0, Nat.zero_le _, h2⟩
  · refine ⟨8796093022208, Nat.le_refl _, ?_⟩
    have hj := jump43 h
    have e : 13446376296816836609 * h + 13463555066489208832 = h + 8796093022208 + 17592186044416 * (764338 * h + 765314) := by omega
    rw [e] at hj
    generalize 764338 * h + 765314 = w at hj
    clear e
    generalize lcgN 8796093022208 h = y at hj ⊢
    omega
theorem jump44 (h : Int) : lcgN 17592186044416 h % 18446744073709551616 = (8446008519924121601 * h + 8480366059268866048) % 18446744073709551616 := by
  have e : lcgN 17592186044416 h = lcgN 8796093022208 (lcgN 8796093022208 h) := lcgN_add 8796093022208 8796093022208 h
  rw [e]
  exact jump_comp 13446376296816836609 13463555066489208832 8446008519924121601 8480366059268866048 9801460615116488705 9813982727442006017 h _ _ (by decide) (by decide) (jump43 h) (jump43 (lcgN 8796093022208 h))
theorem reach44 (h : Int) (hk : (h - 8) % 17592186044416 = 0) : ∃ m, m ≤ 17592186044416 ∧ (lcgN m h - 8) % 35184372088832 = 0 := by
  by_cases h2 : (h - 8) % 35184372088832 = 0
  · exact ⟨0, Nat.zero_le _, h2⟩
  · refine ⟨17592186044416, Nat.le_refl _, ?_⟩
    have hj := jump44 h
    have e : 8446008519924121601 * h + 8480366059268866048 = h + 17592186044416 + 35184372088832 * (240050 * h + 241026) := by omega
    rw [e] at hj
    generalize 240050 * h + 241026 = w at hj
    clear e
    generalize lcgN 17592186044416 h = y at hj ⊢
    omega
theorem jump45 (h : Int) : lcgN 35184372088832 h % 18446744073709551616 = (16892017039848243201 * h + 16960732118537732096) % 18446744073709551616 := by
  have e : lcgN 35184372088832 h = lcgN 17592186044416 (lcgN 17592186044416 h) := lcgN_add 17592186044416 17592186044416 h
  rw [e]
  exact jump_comp 8446008519924121601 8480366059268866048 16892017039848243201 16960732118537732096 3867081346908160000 3882812256865484800 h _ _ (by decide) (by decide) (jump44 h) (jump44 (lcgN 17592186044416 h))
theorem reach45 (h : Int) (hk : (h - 8) % 35184372088832 = 0) : ∃ m, m ≤ 35184372088832 ∧ (lcgN m h - 8) % 70368744177664 = 0 := by
  by_cases h2 : (h - 8) % 70368744177664 = 0
  · exact ⟨0, Nat.zero_le _, h2⟩
  · refine ⟨35184372088832, Nat.le_refl _, ?_⟩
    have hj := jump45 h
    have e : 16892017039848243201 * h + 16960732118537732096 = h + 35184372088832 + 70368744177664 * (240050 * h + 241026) := by omega
    rw [e] at hj
    generalize 240050 * h + 241026 = w at hj
    clear e
    generalize lcgN 35184372088832 h = y at hj ⊢
    omega
theorem jump46 (h : Int) : lcgN 70368744177664 h % 18446744073709551616 = (15337290005986934785 * h + 15474720163365912576) % 18446744073709551616 := by
  have e : lcgN 70368744177664 h = lcgN 35184372088832 (lcgN 35184372088832 h) := lcgN_add 35184372088832 35184372088832 h
  rw [e]
  exact jump_comp 16892017039848243201 16960732118537732096 15337290005986934785 15474720163365912576 15468325387632640001 15531249027461939201 h _ _ (by decide) (by decide) (jump45 h) (jump45 (lcgN 35184372088832 h))
theorem reach46 (h : Int) (hk : (h - 8) % 70368744177664 = 0) : ∃ m, m ≤ 70368744177664 ∧ (lcgN m h - 8) % 140737488355328 = 0 := by
  by_cases h2 : (h - 8) % 140737488355328 = 0
  · exact ⟨0, Nat.zero_le _, h2⟩
  · refine ⟨70368744177664, Nat.le_refl _, ?_⟩
    have hj := jump46 h
    have e : 15337290005986934785 * h + 15474720163365912576 = h + 70368744177664 + 140737488355328 * (108978 * h + 109954) := by omega
    rw [e] at hj
    generalize 108978 * h + 109954 = w at hj
    clear e
    generalize lcgN 70368744177664 h = y at hj ⊢
    omega
theorem jump47 (h : Int) : lcgN 140737488355328 h % 18446744073709551616 = (12227835938264317953 * h + 12502696253022273536) % 18446744073709551616 := by
  have e : lcgN 140737488355328 h = lcgN 70368744177664 (lcgN 70368744177664 h) := lcgN_add 70368744177664 70368744177664 h
  rw [e]
  exact jump_comp 15337290005986934785 15474720163365912576 12227835938264317953 12502696253022273536 12751977464847138817 12866241866785357825 h _ _ (by decide) (by decide) (jump46 h) (jump46 (lcgN 70368744177664 h))
theorem reach47 (h : Int) (hk : (h - 8) % 140737488355328 = 0) : ∃ m, m ≤ 140737488355328 ∧ (lcgN m h - 8) % 281474976710656 = 0 := by
  by_cases h2 : (h - 8) % 281474976710656 = 0
  · exact ⟨0, Nat.zero_le _, h2⟩
  · refine ⟨140737488355328, Nat.le_refl _, ?_⟩
    have hj := jump47 h
    have e : 12227835938264317953 * h + 12502696253022273536 = h + 140737488355328 + 281474976710656 * (43442 * h + 44418) := by omega
    rw [e] at hj
    generalize 43442 * h + 44418 = w at hj
    clear e
    generalize lcgN 140737488355328 h = y at hj ⊢
    omega
theorem jump48 (h : Int) : lcgN 281474976710656 h % 18446744073709551616 = (6008927802819084289 * h + 6558648432334995456) % 18446744073709551616 := by
  have e : lcgN 281474976710656 h = lcgN 140737488355328 (lcgN 140737488355328 h) := lcgN_add 140737488355328 140737488355328 h
  rw [e]
  exact jump_comp 12227835938264317953 12502696253022273536 6008927802819084289 6558648432334995456 8105493909150367745 8287691202145288193 h _ _ (by decide) (by decide) (jump47 h) (jump47 (lcgN 140737488355328 h))
theorem reach48 (h : Int) (hk : (h - 8) % 281474976710656 = 0) : ∃ m, m ≤ 281474976710656 ∧ (lcgN m h - 8) % 562949953421312 = 0 := by
  by_cases h2 : (h - 8) % 562949953421312 = 0
  · exact ⟨0, Nat.zero_le _, h2⟩
  · refine ⟨281474976710656, Nat.le_refl _, ?_⟩
    have hj := jump48 h
    have e : 6008927802819084289 * h + 6558648432334995456 = h + 281474976710656 + 562949953421312 * (10674 * h + 11650) := by omega
    rw [e] at hj
    generalize 10674 * h + 11650 = w at hj
    clear e
    generalize lcgN 281474976710656 h = y at hj ⊢
    omega
theorem jump49 (h : Int) : lcgN 562949953421312 h % 18446744073709551616 = (12017855605638168577 * h + 13117296864669990912) % 18446744073709551616 := by
  have e : lcgN 562949953421312 h = lcgN 281474976710656 (lcgN 281474976710656 h) := lcgN_add 281474976710656 281474976710656 h
  rw [e]
  exact jump_comp 6008927802819084289 6558648432334995456 12017855605638168577 13117296864669990912 1957375957253750784 2136444499717521408 h _ _ (by decide) (by decide) (jump48 h) (jump48 (lcgN 281474976710656 h))
theorem reach49 (h : Int) (hk : (h - 8) % 562949953421312 = 0) : ∃ m, m ≤ 562949953421312 ∧ (lcgN m h - 8) % 1125899906842624 = 0 := by
  by_cases h2 : (h - 8) % 1125899906842624 = 0
  · exact ⟨0, Nat.zero_le _, h2⟩
  · refine ⟨562949953421312, Nat.le_refl _, ?_⟩
    have hj := jump49 h
    have e : 12017855605638168577 * h + 13117296864669990912 = h + 562949953421312 + 1125899906842624 * (10674 * h + 11650) := by omega
    rw [e] at hj
    generalize 10674 * h + 11650 = w at hj
    clear e
    generalize lcgN 562949953421312 h = y at hj ⊢
    omega
theorem jump50 (h : Int) : lcgN 1125899906842624 h % 18446744073709551616 = (5588967137566785537 * h + 7787849655630430208) % 18446744073709551616 := by
  have e : lcgN 1125899906842624 h = lcgN 562949953421312 (lcgN 562949953421312 h) := lcgN_add 562949953421312 562949953421312 h
  rw [e]
  exact jump_comp 12017855605638168577 13117296864669990912 5588967137566785537 7787849655630430208 7829503829015003137 8545777998870085633 h _ _ (by decide) (by decide) (jump49 h) (jump49 (lcgN 562949953421312 h))
theorem reach50 (h : Int) (hk : (h - 8) % 1125899906842624 = 0) : ∃ m, m ≤ 1125899906842624 ∧ (lcgN m h - 8) % 2251799813685248 = 0 := by
  by_cases h2 : (h - 8) % 2251799813685248 = 0
  · exact ⟨0, Nat.zero_le _, h2⟩
  · refine ⟨1125899906842624, Nat.le_refl _, ?_⟩
    have hj := jump50 h
    have e : 5588967137566785537 * h + 7787849655630430208 = h + 1125899906842624 + 2251799813685248 * (2482 * h + 3458) := by omega
    rw [e] at hj
    generalize 2482 * h + 3458 = w at hj
    clear e
    generalize lcgN 1125899906842624 h = y at hj ⊢
    omega
theorem jump51 (h : Int) : lcgN 2251799813685248 h % 18446744073709551616 = (11177934275133571073 * h + 15575699311260860416) % 18446744073709551616 := by
  have e : lcgN 2251799813685248 h = lcgN 1125899906842624 (lcgN 1125899906842624 h) := lcgN_add 1125899906842624 1125899906842624 h
  rw [e]
  exact jump_comp 5588967137566785537 7787849655630430208 11177934275133571073 15575699311260860416 1693336967216889856 2359551128573575168 h _ _ (by decide) (by decide) (jump50 h) (jump50 (lcgN 1125899906842624 h))
theorem reach51 (h : Int) (hk : (h - 8) % 2251799813685248 = 0) : ∃ m, m ≤ 2251799813685248 ∧ (lcgN m h - 8) % 4503599627370496 = 0 := by
  by_cases h2 : (h - 8) % 4503599627370496 = 0
  · exact ⟨0, Nat.zero_le _, h2⟩
  · refine ⟨2251799813685248, Nat.le_refl _, ?_⟩
    have hj := jump51 h
    have e : 11177934275133571073 * h + 15575699311260860416 = h + 2251799813685248 + 4503599627370496 * (2482 * h + 3458) := by omega
    rw [e] at hj
    generalize 2482 * h + 3458 = w at hj
    clear e
    generalize lcgN 2251799813685248 h = y at hj ⊢
    omega
theorem jump52 (h : Int) : lcgN 4503599627370496 h % 18446744073709551616 = (3909124476557590529 * h + 12704654548812169216) % 18446744073709551616 := by
  have e : lcgN 4503599627370496 h = lcgN 2251799813685248 (lcgN 2251799813685248 h) := lcgN_add 2251799813685248 2251799813685248 h
  rw [e]
  exact jump_comp 11177934275133571073 15575699311260860416 3909124476557590529 12704654548812169216 6773347868867559425 9438204514294300673 h _ _ (by decide) (by decide) (jump51 h) (jump51 (lcgN 2251799813685248 h))
theorem reach52 (h : Int) (hk : (h - 8) % 4503599627370496 = 0) : ∃ m, m ≤ 4503599627370496 ∧ (lcgN m h - 8) % 9007199254740992 = 0 := by
  by_cases h2 : (h - 8) % 9007199254740992 = 0
  · exact ⟨0, Nat.zero_le _, h2⟩
  · refine ⟨4503599627370496, Nat.le_refl _, ?_⟩
    have hj := jump52 h
    have e : 3909124476557590529 * h + 12704654548812169216 = h + 4503599627370496 + 9007199254740992 * (434 * h + 1410) := by omega
    rw [e] at hj
    generalize 434 * h + 1410 = w at hj
    clear e
    generalize lcgN 4503599627370496 h = y at hj ⊢
    omega
theorem jump53 (h : Int) : lcgN 9007199254740992 h % 18446744073709551616 = (7818248953115181057 * h + 6962565023914786816) % 18446744073709551616 := by
  have e : lcgN 9007199254740992 h = lcgN 4503599627370496 (lcgN 4503599627370496 h) := lcgN_add 4503599627370496 4503599627370496 h
  rw [e]
  exact jump_comp 3909124476557590529 12704654548812169216 7818248953115181057 6962565023914786816 828398448645505024 2692294958097891329 h _ _ (by decide) (by decide) (jump52 h) (jump52 (lcgN 4503599627370496 h))
theorem reach53 (h : Int) (hk : (h - 8) % 9007199254740992 = 0) : ∃ m, m ≤ 9007199254740992 ∧ (lcgN m h - 8) % 18014398509481984 = 0 := by
  by_cases h2 : (h - 8) % 18014398509481984 = 0
  · exact ⟨0, Nat.zero_le _, h2⟩
  · refine ⟨9007199254740992, Nat.le_refl _, ?_⟩
    have hj := jump53 h
    have e : 7818248953115181057 * h + 6962565023914786816 = h + 9007199254740992 + 18014398509481984 * (434 * h + 386) := by omega
    rw [e] at hj
    generalize 434 * h + 386 = w at hj
    clear e
    generalize lcgN 9007199254740992 h = y at hj ⊢
    omega
theorem jump54 (h : Int) : lcgN 18014398509481984 h % 18446744073709551616 = (15636497906230362113 * h + 13925130047829573632) % 18446744073709551616 := by
  have e : lcgN 18014398509481984 h = lcgN 9007199254740992 (lcgN 9007199254740992 h) := lcgN_add 9007199254740992 9007199254740992 h
  rw [e]
  exact jump_comp 7818248953115181057 6962565023914786816 15636497906230362113 13925130047829573632 3313593794582020096 2950930879276384256 h _ _ (by decide) (by decide) (jump53 h) (jump53 (lcgN 9007199254740992 h))
theorem reach54 (h : Int) (hk : (h - 8) % 18014398509481984 = 0) : ∃ m, m ≤ 18014398509481984 ∧ (lcgN m h - 8) % 36028797018963968 = 0 := by
  by_cases h2 : (h - 8) % 36028797018963968 = 0
  · exact ⟨0, Nat.zero_le _, h2⟩
  · refine ⟨18014398509481984, Nat.le_refl _, ?_⟩
    have hj := jump54 h
    have e : 15636497906230362113 * h + 13925130047829573632 = h + 18014398509481984 + 36028797018963968 * (434 * h + 386) := by omega
    rw [e] at hj
    generalize 434 * h + 386 = w at hj
    clear e
    generalize lcgN 18014398509481984 h = y at hj ⊢
    omega
theorem jump55 (h : Int) : lcgN 36028797018963968 h % 18446744073709551616 = (12826251738751172609 * h + 9403516021949595648) % 18446744073709551616 := by
  have e : lcgN 36028797018963968 h = lcgN 18014398509481984 (lcgN 18014398509481984 h) := lcgN_add 18014398509481984 18014398509481984 h
  rw [e]
  exact jump_comp 15636497906230362113 13925130047829573632 12826251738751172609 9403516021949595648 13254375178328080385 11803723517105537025 h _ _ (by decide) (by decide) (jump54 h) (jump54 (lcgN 18014398509481984 h))
theorem reach55 (h : Int) (hk : (h - 8) % 36028797018963968 = 0) : ∃ m, m ≤ 36028797018963968 ∧ (lcgN m h - 8) % 72057594037927936 = 0 := by
  by_cases h2 : (h - 8) % 72057594037927936 = 0
  · exact ⟨0, Nat.zero_le _, h2⟩
  · refine ⟨36028797018963968, Nat.le_refl _, ?_⟩
    have hj := jump55 h
    have e : 12826251738751172609 * h + 9403516021949595648 = h + 36028797018963968 + 72057594037927936 * (178 * h + 130) := by omega
    rw [e] at hj
    generalize 178 * h + 130 = w at hj
    clear e
    generalize lcgN 36028797018963968 h = y at hj ⊢
    omega
theorem jump56 (h : Int) : lcgN 72057594037927936 h % 18446744073709551616 = (7205759403792793601 * h + 360287970189639680) % 18446744073709551616 := by
  have e : lcgN 72057594037927936 h = lcgN 36028797018963968 (lcgN 36028797018963968 h) := lcgN_add 36028797018963968 36028797018963968 h
  rw [e]
  exact jump_comp 12826251738751172609 9403516021949595648 7205759403792793601 360287970189639680 8918253162100424705 6538382234011828225 h _ _ (by decide) (by decide) (jump55 h) (jump55 (lcgN 36028797018963968 h))
theorem reach56 (h : Int) (hk : (h - 8) % 72057594037927936 = 0) : ∃ m, m ≤ 72057594037927936 ∧ (lcgN m h - 8) % 144115188075855872 = 0 := by
  by_cases h2 : (h - 8) % 144115188075855872 = 0
  · exact ⟨0, Nat.zero_le _, h2⟩
  · refine ⟨72057594037927936, Nat.le_refl _, ?_⟩
    have hj := jump56 h
    have e : 7205759403792793601 * h + 360287970189639680 = h + 72057594037927936 + 144115188075855872 * (50 * h + 2) := by omega
    rw [e] at hj
    generalize 50 * h + 2 = w at hj
    clear e
    generalize lcgN 72057594037927936 h = y at hj ⊢
    omega
theorem jump57 (h : Int) : lcgN 144115188075855872 h % 18446744073709551616 = (14411518807585587201 * h + 720575940379279360) % 18446744073709551616 := by
  have e : lcgN 144115188075855872 h = lcgN 72057594037927936 (lcgN 72057594037927936 h) := lcgN_add 72057594037927936 72057594037927936 h
  rw [e]
  exact jump_comp 7205759403792793601 360287970189639680 14411518807585587201 720575940379279360 2814749767106560000 140737488355328000 h _ _ (by decide) (by decide) (jump56 h) (jump56 (lcgN 72057594037927936 h))
theorem reach57 (h : Int) (hk : (h - 8) % 144115188075855872 = 0) : ∃ m, m ≤ 144115188075855872 ∧ (lcgN m h - 8) % 288230376151711744 = 0 := by
  by_cases h2 : (h - 8) % 288230376151711744 = 0
  · exact ⟨0, Nat.zero_le _, h2⟩
  · refine ⟨144115188075855872, Nat.le_refl _, ?_⟩
    have hj := jump57 h
    have e : 14411518807585587201 * h + 720575940379279360 = h + 144115188075855872 + 288230376151711744 * (50 * h + 2) := by omega
    rw [e] at hj
    generalize 50 * h + 2 = w at hj
    clear e
    generalize lcgN 144115188075855872 h = y at hj ⊢
    omega
theorem jump58 (h : Int) : lcgN 288230376151711744 h % 18446744073709551616 = (10376293541461622785 * h + 1441151880758558720) % 18446744073709551616 := by
  have e : lcgN 288230376151711744 h = lcgN 144115188075855872 (lcgN 144115188075855872 h) := lcgN_add 144115188075855872 144115188075855872 h
  rw [e]
  exact jump_comp 14411518807585587201 720575940379279360 10376293541461622785 1441151880758558720 11258999068426240001 562949953421312000 h _ _ (by decide) (by decide) (jump57 h) (jump57 (lcgN 144115188075855872 h))
theorem reach58 (h : Int) (hk : (h - 8) % 288230376151711744 = 0) : ∃ m, m ≤ 288230376151711744 ∧ (lcgN m h - 8) % 576460752303423488 = 0 := by
  by_cases h2 : (h - 8) % 576460752303423488 = 0
  · exact ⟨0, Nat.zero_le _, h2⟩
  · refine ⟨288230376151711744, Nat.le_refl _, ?_⟩
    have hj := jump58 h
    have e : 10376293541461622785 * h + 1441151880758558720 = h + 288230376151711744 + 576460752303423488 * (18 * h + 2) := by omega
    rw [e] at hj
    generalize 18 * h + 2 = w at hj
    clear e
    generalize lcgN 288230376151711744 h = y at hj ⊢
    omega
theorem jump59 (h : Int) : lcgN 576460752303423488 h % 18446744073709551616 = (2305843009213693953 * h + 2882303761517117440) % 18446744073709551616 := by
  have e : lcgN 576460752303423488 h = lcgN 288230376151711744 (lcgN 288230376151711744 h) := lcgN_add 288230376151711744 288230376151711744 h
  rw [e]
  exact jump_comp 10376293541461622785 1441151880758558720 2305843009213693953 2882303761517117440 5836665117072162817 810647932926689280 h _ _ (by decide) (by decide) (jump58 h) (jump58 (lcgN 288230376151711744 h))
theorem reach59 (h : Int) (hk : (h - 8) % 576460752303423488 = 0) : ∃ m, m ≤ 576460752303423488 ∧ (lcgN m h - 8) % 1152921504606846976 = 0 := by
  by_cases h2 : (h - 8) % 1152921504606846976 = 0
  · exact ⟨0, Nat.zero_le _, h2⟩
  · refine ⟨576460752303423488, Nat.le_refl _, ?_⟩
    have hj := jump59 h
    have e : 2305843009213693953 * h + 2882303761517117440 = h + 576460752303423488 + 1152921504606846976 * (2 * h + 2) := by omega
    rw [e] at hj
    generalize 2 * h + 2 = w at hj
    clear e
    generalize lcgN 576460752303423488 h = y at hj ⊢
    omega
theorem jump60 (h : Int) : lcgN 1152921504606846976 h % 18446744073709551616 = (4611686018427387905 * h + 5764607523034234880) % 18446744073709551616 := by
  have e : lcgN 1152921504606846976 h = lcgN 576460752303423488 (lcgN 576460752303423488 h) := lcgN_add 576460752303423488 576460752303423488 h
  rw [e]
  exact jump_comp 2305843009213693953 2882303761517117440 4611686018427387905 5764607523034234880 288230376151711744 360287970189639680 h _ _ (by decide) (by decide) (jump59 h) (jump59 (lcgN 576460752303423488 h))
theorem reach60 (h : Int) (hk : (h - 8) % 1152921504606846976 = 0) : ∃ m, m ≤ 1152921504606846976 ∧ (lcgN m h - 8) % 2305843009213693952 = 0 := by
  by_cases h2 : (h - 8) % 2305843009213693952 = 0
  · exact ⟨0, Nat.zero_le _, h2⟩
  · refine ⟨1152921504606846976, Nat.le_refl _, ?_⟩
    have hj := jump60 h
    have e : 4611686018427387905 * h + 5764607523034234880 = h + 1152921504606846976 + 2305843009213693952 * (2 * h + 2) := by omega
    rw [e] at hj
    generalize 2 * h + 2 = w at hj
    clear e
    generalize lcgN 1152921504606846976 h = y at hj ⊢
    omega
theorem jump61 (h : Int) : lcgN 2305843009213693952 h % 18446744073709551616 = (9223372036854775809 * h + 11529215046068469760) % 18446744073709551616 := by
  have e : lcgN 2305843009213693952 h = lcgN 1152921504606846976 (lcgN 1152921504606846976 h) := lcgN_add 1152921504606846976 1152921504606846976 h
  rw [e]
  exact jump_comp 4611686018427387905 5764607523034234880 9223372036854775809 11529215046068469760 1152921504606846976 1441151880758558720 h _ _ (by decide) (by decide) (jump60 h) (jump60 (lcgN 1152921504606846976 h))
theorem reach61 (h : Int) (hk : (h - 8) % 2305843009213693952 = 0) : ∃ m, m ≤ 2305843009213693952 ∧ (lcgN m h - 8) % 4611686018427387904 = 0 := by
  by_cases h2 : (h - 8) % 4611686018427387904 = 0
  · exact ⟨0, Nat.zero_le _, h2⟩
  · refine ⟨2305843009213693952, Nat.le_refl _, ?_⟩
    have hj := jump61 h
    have e : 9223372036854775809 * h + 11529215046068469760 = h + 2305843009213693952 + 4611686018427387904 * (2 * h + 2) := by omega
    rw [e] at hj
    generalize 2 * h + 2 = w at hj
    clear e
    generalize lcgN 2305843009213693952 h = y at hj ⊢
    omega
theorem jump62 (h : Int) : lcgN 4611686018427387904 h % 18446744073709551616 = (1 * h + 4611686018427387904) % 18446744073709551616 := by
  have e : lcgN 4611686018427387904 h = lcgN 2305843009213693952 (lcgN 2305843009213693952 h) := lcgN_add 2305843009213693952 2305843009213693952 h
  rw [e]
  exact jump_comp 9223372036854775809 11529215046068469760 1 4611686018427387904 4611686018427387905 5764607523034234881 h _ _ (by decide) (by decide) (jump61 h) (jump61 (lcgN 2305843009213693952 h))
theorem reach62 (h : Int) (hk : (h - 8) % 4611686018427387904 = 0) : ∃ m, m ≤ 4611686018427387904 ∧ (lcgN m h - 8) % 9223372036854775808 = 0 := by
  by_cases h2 : (h - 8) % 9223372036854775808 = 0
  · exact ⟨0, Nat.zero_le _, h2⟩
  · refine ⟨4611686018427387904, Nat.le_refl _, ?_⟩
    have hj := jump62 h
    have e : 1 * h + 4611686018427387904 = h + 4611686018427387904 + 9223372036854775808 * (0 * h + 0) := by omega
    rw [e] at hj
    generalize 0 * h + 0 = w at hj
    clear e
    generalize lcgN 4611686018427387904 h = y at hj ⊢
    omega
theorem jump63 (h : Int) : lcgN 9223372036854775808 h % 18446744073709551616 = (1 * h + 9223372036854775808) % 18446744073709551616 := by
  have e : lcgN 9223372036854775808 h = lcgN 4611686018427387904 (lcgN 4611686018427387904 h) := lcgN_add 4611686018427387904 4611686018427387904 h
  rw [e]
  exact jump_comp 1 4611686018427387904 1 9223372036854775808 0 0 h _ _ (by decide) (by decide) (jump62 h) (jump62 (lcgN 4611686018427387904 h))
theorem reach63 (h : Int) (hk : (h - 8) % 9223372036854775808 = 0) : ∃ m, m ≤ 9223372036854775808 ∧ (lcgN m h - 8) % 18446744073709551616 = 0 := by
  by_cases h2 : (h - 8) % 18446744073709551616 = 0
  · exact ⟨0, Nat.zero_le _, h2⟩
  · refine ⟨9223372036854775808, Nat.le_refl _, ?_⟩
    have hj := jump63 h
    have e : 1 * h + 9223372036854775808 = h + 9223372036854775808 + 18446744073709551616 * (0 * h + 0) := by omega
    rw [e] at hj
    generalize 0 * h + 0 = w at hj
    clear e
    generalize lcgN 9223372036854775808 h = y at hj ⊢
    omega
theorem reach_all (h : Int) (hr : -9223372036854775808 ≤ h ∧ h ≤ 9223372036854775807) : ∃ m, m ≤ 18446744073709551616 ∧ lcgN m h = 8 := by
  have k0 : (lcgN 0 h - 8) % 1 = 0 := by omega
  obtain ⟨n0, b0, k1⟩ := reach0 _ k0
  rw [← lcgN_add] at k1
  obtain ⟨n1, b1, k2⟩ := reach1 _ k1
  rw [← lcgN_add] at k2
  obtain ⟨n2, b2, k3⟩ := reach2 _ k2
  rw [← lcgN_add] at k3
  obtain ⟨n3, b3, k4⟩ := reach3 _ k3
  rw [← lcgN_add] at k4
  obtain ⟨n4, b4, k5⟩ := reach4 _ k4
  rw [← lcgN_add] at k5
  obtain ⟨n5, b5, k6⟩ := reach5 _ k5
  rw [← lcgN_add] at k6
  obtain ⟨n6, b6, k7⟩ := reach6 _ k6
  rw [← lcgN_add] at k7
  obtain ⟨n7, b7, k8⟩ := reach7 _ k7
  rw [← lcgN_add] at k8
  obtain ⟨n8, b8, k9⟩ := reach8 _ k8
  rw [← lcgN_add] at k9
  obtain ⟨n9, b9, k10⟩ := reach9 _ k9
  rw [← lcgN_add] at k10
  obtain ⟨n10, b10, k11⟩ := reach10 _ k10
  rw [← lcgN_add] at k11
  obtain ⟨n11, b11, k12⟩ := reach11 _ k11
  rw [← lcgN_add] at k12
  obtain ⟨n12, b12, k13⟩ := reach12 _ k12
  rw [← lcgN_add] at k13
  obtain ⟨n13, b13, k14⟩ := reach13 _ k13
  rw [← lcgN_add] at k14
  obtain ⟨n14, b14, k15⟩ := reach14 _ k14
  rw [← lcgN_add] at k15
  obtain ⟨n15, b15, k16⟩ := reach15 _ k15
  rw [← lcgN_add] at k16
  obtain ⟨n16, b16, k17⟩ := reach16 _ k16
  rw [← lcgN_add] at k17
  obtain ⟨n17, b17, k18⟩ := reach17 _ k17
  rw [← lcgN_add] at k18
  obtain ⟨n18, b18, k19⟩ := reach18 _ k18
  rw [← lcgN_add] at k19
  obtain ⟨n19, b19, k20⟩ := reach19 _ k19
  rw [← lcgN_add] at k20
  obtain ⟨n20, b20, k21⟩ := reach20 _ k20
  rw [← lcgN_add] at k21
  obtain ⟨n21, b21, k22⟩ := reach21 _ k21
  rw [← lcgN_add] at k22
  obtain ⟨n22, b22, k23⟩ := reach22 _ k22
  rw [← lcgN_add] at k23
  obtain ⟨n23, b23, k24⟩ := reach23 _ k23
  rw [← lcgN_add] at k24
  obtain ⟨n24, b24, k25⟩ := reach24 _ k24
  rw [← lcgN_add] at k25
  obtain ⟨n25, b25, k26⟩ := reach25 _ k25
  rw [← lcgN_add] at k26
  obtain ⟨n26, b26, k27⟩ := reach26 _ k26
  rw [← lcgN_add] at k27
  obtain ⟨n27, b27, k28⟩ := reach27 _ k27
  rw [← lcgN_add] at k28
  obtain ⟨n28, b28, k29⟩ := reach28 _ k28
  rw [← lcgN_add] at k29
  obtain ⟨n29, b29, k30⟩ := reach29 _ k29
  rw [← lcgN_add] at k30
  obtain ⟨n30, b30, k31⟩ := reach30 _ k30
  rw [← lcgN_add] at k31
  obtain ⟨n31, b31, k32⟩ := reach31 _ k31
  rw [← lcgN_add] at k32
  obtain ⟨n32, b32, k33⟩ := reach32 _ k32
  rw [← lcgN_add] at k33
  obtain ⟨n33, b33, k34⟩ := reach33 _ k33
  rw [← lcgN_add] at k34
  obtain ⟨n34, b34, k35⟩ := reach34 _ k34
  rw [← lcgN_add] at k35
  obtain ⟨n35, b35, k36⟩ := reach35 _ k35
  rw [← lcgN_add] at k36
  obtain ⟨n36, b36, k37⟩ := reach36 _ k36
  rw [← lcgN_add] at k37
  obtain ⟨n37, b37, k38⟩ := reach37 _ k37
  rw [← lcgN_add] at k38
  obtain ⟨n38, b38, k39⟩ := reach38 _ k38
  rw [← lcgN_add] at k39
  obtain ⟨n39, b39, k40⟩ := reach39 _ k39
  rw [← lcgN_add] at k40
  obtain ⟨n40, b40, k41⟩ := reach40 _ k40
  rw [← lcgN_add] at k41
  obtain ⟨n41, b41, k42⟩ := reach41 _ k41
  rw [← lcgN_add] at k42
  obtain ⟨n42, b42, k43⟩ := reach42 _ k42
  rw [← lcgN_add] at k43
  obtain ⟨n43, b43, k44⟩ := reach43 _ k43
  rw [← lcgN_add] at k44
  obtain ⟨n44, b44, k45⟩ := reach44 _ k44
  rw [← lcgN_add] at k45
  obtain ⟨n45, b45, k46⟩ := reach45 _ k45
  rw [← lcgN_add] at k46
  obtain ⟨n46, b46, k47⟩ := reach46 _ k46
  rw [← lcgN_add] at k47
  obtain ⟨n47, b47, k48⟩ := reach47 _ k47
  rw [← lcgN_add] at k48
  obtain ⟨n48, b48, k49⟩ := reach48 _ k48
  rw [← lcgN_add] at k49
  obtain ⟨n49, b49, k50⟩ := reach49 _ k49
  rw [← lcgN_add] at k50
  obtain ⟨n50, b50, k51⟩ := reach50 _ k50
  rw [← lcgN_add] at k51
  obtain ⟨n51, b51, k52⟩ := reach51 _ k51
  rw [← lcgN_add] at k52
  obtain ⟨n52, b52, k53⟩ := reach52 _ k52
  rw [← lcgN_add] at k53
  obtain ⟨n53, b53, k54⟩ := reach53 _ k53
  rw [← lcgN_add] at k54
  obtain ⟨n54, b54, k55⟩ := reach54 _ k54
  rw [← lcgN_add] at k55
  obtain ⟨n55, b55, k56⟩ := reach55 _ k55
  rw [← lcgN_add] at k56
  obtain ⟨n56, b56, k57⟩ := reach56 _ k56
  rw [← lcgN_add] at k57
  obtain ⟨n57, b57, k58⟩ := reach57 _ k57
  rw [← lcgN_add] at k58
  obtain ⟨n58, b58, k59⟩ := reach58 _ k58
  rw [← lcgN_add] at k59
  obtain ⟨n59, b59, k60⟩ := reach59 _ k59
  rw [← lcgN_add] at k60
  obtain ⟨n60, b60, k61⟩ := reach60 _ k60
  rw [← lcgN_add] at k61
  obtain ⟨n61, b61, k62⟩ := reach61 _ k61
  rw [← lcgN_add] at k62
  obtain ⟨n62, b62, k63⟩ := reach62 _ k62
  rw [← lcgN_add] at k63
  obtain ⟨n63, b63, k64⟩ := reach63 _ k63
  rw [← lcgN_add] at k64
  have hm := lcgN_range (0 + n0 + n1 + n2 + n3 + n4 + n5 + n6 + n7 + n8 + n9 + n10 + n11 + n12 + n13 + n14 + n15 + n16 + n17 + n18 + n19 + n20 + n21 + n22 + n23 + n24 + n25 + n26 + n27 + n28 + n29 + n30 + n31 + n32 + n33 + n34 + n35 + n36 + n37 + n38 + n39 + n40 + n41 + n42 + n43 + n44 + n45 + n46 + n47 + n48 + n49 + n50 + n51 + n52 + n53 + n54 + n55 + n56 + n57 + n58 + n59 + n60 + n61 + n62 + n63) h hr
  refine ⟨0 + n0 + n1 + n2 + n3 + n4 + n5 + n6 + n7 + n8 + n9 + n10 + n11 + n12 + n13 + n14 + n15 + n16 + n17 + n18 + n19 + n20 + n21 + n22 + n23 + n24 + n25 + n26 + n27 + n28 + n29 + n30 + n31 + n32 + n33 + n34 + n35 + n36 + n37 + n38 + n39 + n40 + n41 + n42 + n43 + n44 + n45 + n46 + n47 + n48 + n49 + n50 + n51 + n52 + n53 + n54 + n55 + n56 + n57 + n58 + n59 + n60 + n61 + n62 + n63, by omega, ?_⟩
  generalize lcgN (0 + n0 + n1 + n2 + n3 + n4 + n5 + n6 + n7 + n8 + n9 + n10 + n11 + n12 + n13 + n14 + n15 + n16 + n17 + n18 + n19 + n20 + n21 + n22 + n23 + n24 + n25 + n26 + n27 + n28 + n29 + n30 + n31 + n32 + n33 + n34 + n35 + n36 + n37 + n38 + n39 + n40 + n41 + n42 + n43 + n44 + n45 + n46 + n47 + n48 + n49 + n50 + n51 + n52 + n53 + n54 + n55 + n56 + n57 + n58 + n59 + n60 + n61 + n62 + n63) h = y at hm k64
  omega
/-- What comes out of a state. -/
def lcgOut (h : Int) : Nat := (bits .xor .i64 (h / 8589934592) (h / 35184372088832) % 256).toNat
/-- From here the next byte lets a text grow. -/
def Grow1 (h : Int) : Prop := h = 8 ∨ h = lcg 8 ∨ h = lcg (lcg 8)
theorem grow1_out {h : Int} (hg : Grow1 h) : lcgOut (lcg h) % 5 ≠ 1 ∧ lcgOut (lcg h) % 5 ≠ 2 := by
  rcases hg with rfl | rfl | rfl
  · decide +kernel
  · decide +kernel
  · decide +kernel
/-- It will be so within g more bytes. -/
def Soon (g : Nat) (h : Int) : Prop := Grow1 h ∨ ∃ m, m ≤ g ∧ lcgN m h = 8
theorem soon_zero {h : Int} (hs : Soon 0 h) : Grow1 h := by
  rcases hs with hs | ⟨m, hm, e⟩
  · exact hs
  · obtain rfl : m = 0 := by omega
    exact .inl e
theorem soon_any (h : Int) : Soon 18446744073709551617 h := by
  obtain ⟨m, hm, e⟩ := reach_all (lcg h) (lcg_mod h).2
  exact .inr ⟨m + 1, by omega, e⟩
theorem soon_one {g : Nat} {h : Int} (hs : Soon (g + 1) h) (hn : ¬ Grow1 h) : Soon g (lcg h) := by
  rcases hs with hs | ⟨m, hm, e⟩
  · exact absurd hs hn
  · cases m with
    | zero => exact absurd (.inl e) hn
    | succ m => exact .inr ⟨m, by omega, e⟩
theorem soon_three {g : Nat} {h : Int} (hs : Soon (g + 1) h) (hn : ¬ Grow1 h) : Soon g (lcg (lcg (lcg h))) := by
  rcases hs with hs | ⟨m, hm, e⟩
  · exact absurd hs hn
  · match m, hm, e with
    | 0, _, e => exact absurd (.inl e) hn
    | 1, _, e => have e : lcg h = 8 := e; rw [e]; exact .inl (.inr (.inr rfl))
    | 2, _, e => have e : lcg (lcg h) = 8 := e; rw [e]; exact .inl (.inr (.inl rfl))
    | m + 3, hm, e => exact .inr ⟨m, by omega, e⟩
end Go.Proofs.YtbfddabljkoapaaGreatDoor

/-
  The drawing cursor's bytes, its state told.
-/
namespace Go.Proofs.YtbfddabljkoapaaGreatDoor
open Go.RowKit
set_option linter.unusedVariables false
set_option linter.unusedSimpArgs false
set_option maxRecDepth 100000

/-- A cursor whose place and state are told. -/
def CurX (w : World) (b : Nat) (A : Option Addr) (cap : Nat) (code : List UInt8) (i : Nat) (h : Int) : Prop :=
  i ≤ code.length ∧ Blk w b 99 #[.slice A code.length cap, .int .i64 i, .int .i64 h] ∧ At1 w b A (code.map bv) ∧ code.length ≤ 1000000000
theorem CurX.cur {w : World} {b : Nat} {A : Option Addr} {cap : Nat} {code : List UInt8} {i : Nat} {h : Int} (hc : CurX w b A cap code i h) : Cur w b A cap code := ⟨⟨i, h, hc.1, hc.2.1⟩, hc.2.2.1, hc.2.2.2⟩
theorem Cur.x {w : World} {b : Nat} {A : Option Addr} {cap : Nat} {code : List UInt8} (hc : Cur w b A cap code) : ∃ i h, CurX w b A cap code i h := by
  obtain ⟨⟨i, h, hi, hB⟩, h2, h3⟩ := hc
  exact ⟨i, h, hi, hB, h2, h3⟩
theorem CurX.below {w w' : World} {b : Nat} {A : Option Addr} {cap : Nat} {code : List UInt8} {i : Nat} {h : Int} (hc : CurX w b A cap code i h) {B : Nat} (hb : Below B w w') (hB : b < B) : CurX w' b A cap code i h :=
  ⟨hc.1, hc.2.1.below hb hB, hc.2.2.1.below hb (Nat.le_of_lt hB), hc.2.2.2⟩
theorem CurX.lt {w : World} {b : Nat} {A : Option Addr} {cap : Nat} {code : List UInt8} {i : Nat} {h : Int} (hc : CurX w b A cap code i h) : b < w.heap.size := hc.2.1.lt
/-- What a byte's reading tells: the next place and state; the byte itself where the code's bytes are all read. -/
def NextX (code : List UInt8) (i : Nat) (h : Int) (i' : Nat) (h' : Int) (r : Nat) : Prop := r < 256 ∧ h' = lcg h ∧ ((i < code.length ∧ i' = i + 1) ∨ (i = code.length ∧ i' = i ∧ r = lcgOut h'))

theorem out_eq (H : Int) : lcgOut H = (bits .xor .i64 (H / 8589934592) (H / 35184372088832) % 256).toNat := rfl
set_option maxHeartbeats 2000000 in
theorem dByteX (b : Nat) (A : Option Addr) (cap : Nat) (code : List UInt8) (i : Nat) (h : Int) (w : World) (hc : CurX w b A cap code i h) :
    Calls Tryz.prog 107 #[.pointer (some ⟨b, 0, none⟩)] w fun e w' => ∃ r i' h', e = .returned (.int .i64 (r : Nat)) ∧ NextX code i h i' h' r ∧ CurX w' b A cap code i' h' ∧ Gr b w w' := by
  obtain ⟨hi, hB, hat, hn⟩ := hc
  have d2 : w.cell? ⟨b, 2, none⟩ = some (.int .i64 h) := hB.cell 2
  have k2 := hB.soft 2
  have HB := Lib.hid hB
  have HA := Lib.hid hat
  have HLC : Hid (wrap64 (wrap64 (h * 6364136223846793005) + 1442695040888963407) = lcg h) := Lib.hid rfl
  clear hB hat
  go_enter Tryz.func107, Tryz.ntmps107
  go_wp2_with fail
  rw [HLC.out]
  have HH : Hid (∃ H, lcg h = H) := Lib.hid ⟨_, rfl⟩
  obtain ⟨H, hH⟩ := HH.out
  rw [hH]
  have HHE := Lib.hid hH
  clear hH HH
  have hB1 : Blk (w.setCell ⟨b, 2, none⟩ (.int .i64 H)) b 99 #[.slice A code.length cap, .int .i64 i, .int .i64 H] := HB.out.set 2 (.int .i64 H)
  have hg1 : Gr b w (w.setCell ⟨b, 2, none⟩ (.int .i64 H)) := Gr.set b w 2 _
  generalize w.setCell ⟨b, 2, none⟩ (.int .i64 H) = w1 at hB1 hg1 ⊢
  have HB1 := Lib.hid hB1
  have HG1 := Lib.hid hg1
  have e0 : w1.cell? ⟨b, 0, none⟩ = some (.slice A code.length cap) := hB1.cell 0
  have e1 : w1.cell? ⟨b, 1, none⟩ = some (.int .i64 i) := hB1.cell 1
  have e2 : w1.cell? ⟨b, 2, none⟩ = some (.int .i64 H) := hB1.cell 2
  clear d2 k2 hB1 hg1
  go_quiet (fail)
  rw [and255]
  have hX : (bits .xor .i64 (H / 8589934592) (H / 35184372088832) % 256).toNat < 256 := by omega
  have HXO : Hid (lcgOut H = (bits .xor .i64 (H / 8589934592) (H / 35184372088832) % 256).toNat) := Lib.hid (out_eq H)
  generalize (bits .xor .i64 (H / 8589934592) (H / 35184372088832) % 256).toNat = X at hX HXO ⊢
  have hg2 := HG1.out.drewN nq
  have hB2 : Blk (w1.drewN nq) b 99 #[.slice A code.length cap, .int .i64 i, .int .i64 H] := HB1.out
  generalize w1.drewN nq = w2 at hg2 hB2 ⊢
  have f0 : w2.cell? ⟨b, 0, none⟩ = some (.slice A code.length cap) := hB2.cell 0
  have f1 : w2.cell? ⟨b, 1, none⟩ = some (.int .i64 i) := hB2.cell 1
  have HB2 := Lib.hid hB2
  have HG2 := Lib.hid hg2
  clear e0 e1 e2 hB2 hg2
  by_cases hlt : i < code.length
  · obtain ⟨g, off, rfl, hgb, hcell⟩ := (HA.out.grown HG2.out).get (j := i) (by simpa using hlt)
    rw [List.getElem_map] at hcell
    unfold bv at hcell
    go_wp2_with fail
    go_quiet (fail)
    have hg3 := HG2.out.drewN nq
    have hB3 : Blk (w2.drewN nq) b 99 #[.slice (some ⟨g, off, none⟩) code.length cap, .int .i64 i, .int .i64 H] := HB2.out
    have hcell3 : (w2.drewN nq).cell? ⟨g, off + i, none⟩ = some (.int .u8 ((code[i]).toNat : Int)) := hcell
    generalize w2.drewN nq = w3 at hg3 hB3 hcell3 ⊢
    have e0 : w3.cell? ⟨b, 0, none⟩ = some (.slice (some ⟨g, off, none⟩) code.length cap) := hB3.cell 0
    have e1 : w3.cell? ⟨b, 1, none⟩ = some (.int .i64 i) := hB3.cell 1
    have hu : (code[i]).toNat < 256 := UInt8.toNat_lt _
    have HB3 := Lib.hid hB3
    have HG3 := Lib.hid hg3
    clear f0 f1 hcell hB3 hg3
    go_wp2_with fail
    go_quiet (fail)
    rw [and255]
    have hY : ((((X : Nat) : Int) + ((code[i]).toNat : Int)) % 256).toNat < 256 := by omega
    generalize ((((X : Nat) : Int) + ((code[i]).toNat : Int)) % 256).toNat = Y at hY ⊢
    have hg4 := HG3.out.drewN nq
    have hB4 : Blk (w3.drewN nq) b 99 #[.slice (some ⟨g, off, none⟩) code.length cap, .int .i64 i, .int .i64 H] := HB3.out
    generalize w3.drewN nq = w4 at hg4 hB4 ⊢
    have f1 : w4.cell? ⟨b, 1, none⟩ = some (.int .i64 i) := hB4.cell 1
    have k1 := hB4.soft 1
    have HB4 := Lib.hid hB4
    have HG4 := Lib.hid hg4
    clear e0 e1 hB4 hg4 hcell3
    go_wp2_with fail
    go_ret
    have hgN : Gr b w (w4.setCell ⟨b, 1, none⟩ (.int .i64 ((i + 1 : Nat) : Int))) := HG4.out.trans (Gr.set b w4 1 _)
    exact ⟨Y, i + 1, H, rfl, ⟨hY, HHE.out.symm, .inl ⟨hlt, rfl⟩⟩, ⟨hlt, HB4.out.set 1 (.int .i64 ((i + 1 : Nat) : Int)), HA.out.grown hgN, hn⟩, hgN⟩
  · go_wp2_with fail
    go_quiet (fail)
    go_wp2_with fail
    go_ret
    exact ⟨X, i, H, rfl, ⟨hX, HHE.out.symm, .inr ⟨by omega, rfl, HXO.out.symm⟩⟩, ⟨hi, HB2.out, HA.out.grown (HG2.out.drewN _), hn⟩, HG2.out.drewN _⟩

set_option maxHeartbeats 2000000 in
theorem dBelowX (n : Nat) (b : Nat) (A : Option Addr) (cap : Nat) (code : List UInt8) (i : Nat) (h : Int) (w : World) (h0 : 0 < n) (hn : n ≤ 256) (hc : CurX w b A cap code i h) :
    Calls Tryz.prog 63 #[.pointer (some ⟨b, 0, none⟩), .int .i64 n] w fun e w' => ∃ r i' h', e = .returned (.int .i64 ((r % n : Nat) : Int)) ∧ NextX code i h i' h' r ∧ CurX w' b A cap code i' h' ∧ Gr b w w' := by
  have HC := Lib.hid hc
  clear hc
  have hn0 : ¬ (n : Int) = 0 := by omega
  go_enter Tryz.func63, Tryz.ntmps63
  go_wp2_with fail
  refine (dByteX b A cap code i h w HC.out).mono ?_
  rintro e w1 ⟨r, i', h', rfl, hnx, hc1, hg⟩
  go_wp2_with fail
  go_ret
  exact ⟨r, i', h', ret_eq (congrArg (Value.int .i64) (by simp)), hnx, hc1, hg⟩
end Go.Proofs.YtbfddabljkoapaaGreatDoor

/-
  The drawing cursor: a text of a given length; it comes to an end, for whatever state, a state comes from which it grows.
-/
namespace Go.Proofs.YtbfddabljkoapaaGreatDoor
open Go.RowKit
set_option linter.unusedVariables false
set_option linter.unusedSimpArgs false
set_option maxRecDepth 100000

/-- How many rounds may still go by before the text grows. -/
def Wait (L i : Nat) (h : Int) (g : Nat) : Prop := (i < L ∧ L - i + 18446744073709551618 ≤ g) ∨ (i = L ∧ ∃ q, Soon q h ∧ q + 1 ≤ g)
theorem wait_any (L i : Nat) (h : Int) (hi : i ≤ L) : Wait L i h (L + 18446744073709551618) := by
  rcases Nat.lt_or_ge i L with h1 | h1
  · exact .inl ⟨h1, by omega⟩
  · exact .inr ⟨by omega, 18446744073709551617, soon_any h, by omega⟩
theorem wait_pos {L i : Nat} {h : Int} {g : Nat} (hw : Wait L i h g) : 0 < g := by
  rcases hw with ⟨_, h⟩ | ⟨_, q, _, h⟩ <;> omega
/-- Behind one byte, or three, without growth. -/
theorem wait_one {code : List UInt8} {i i1 : Nat} {h h1 : Int} {g r1 : Nat} (hw : Wait code.length i h (g + 1)) (n1 : NextX code i h i1 h1 r1) (hr : r1 % 5 = 1 ∨ r1 % 5 = 2) : Wait code.length i1 h1 g := by
  obtain ⟨_, e1, hc⟩ := n1
  subst e1
  rcases hw with ⟨hlt, hg⟩ | ⟨hi, q, hs, hq⟩
  · rcases hc with ⟨_, e⟩ | ⟨e, _⟩
    · subst e
      rcases Nat.lt_or_ge (i + 1) code.length with h2 | h2
      · exact .inl ⟨h2, by omega⟩
      · exact .inr ⟨by omega, 18446744073709551617, soon_any _, by omega⟩
    · omega
  · rcases hc with ⟨e, _⟩ | ⟨_, e, er⟩
    · omega
    · subst e
      have hng : ¬ Grow1 h := fun hgr => by
        have := grow1_out hgr
        rw [← er] at this
        omega
      cases q with
      | zero => exact absurd (soon_zero hs) hng
      | succ q => exact .inr ⟨hi, q, soon_one hs hng, by omega⟩
theorem wait_three {code : List UInt8} {i i1 i2 i3 : Nat} {h h1 h2 h3 : Int} {g r1 r2 r3 : Nat} (hw : Wait code.length i h (g + 1)) (n1 : NextX code i h i1 h1 r1) (n2 : NextX code i1 h1 i2 h2 r2) (n3 : NextX code i2 h2 i3 h3 r3) (hr : r1 % 5 = 1 ∨ r1 % 5 = 2) : Wait code.length i3 h3 g := by
  obtain ⟨_, e1, hc1⟩ := n1
  obtain ⟨_, e2, hc2⟩ := n2
  obtain ⟨_, e3, hc3⟩ := n3
  subst e1 e2 e3
  rcases hw with ⟨hlt, hg⟩ | ⟨hi, q, hs, hq⟩
  · have hi3 : i3 ≤ code.length ∧ i < i3 := by omega
    rcases Nat.lt_or_ge i3 code.length with h2 | h2
    · exact .inl ⟨h2, by omega⟩
    · exact .inr ⟨by omega, 18446744073709551617, soon_any _, by omega⟩
  · have hi1 : i1 = code.length := by omega
    have hi2 : i2 = code.length := by omega
    have hi3 : i3 = code.length := by omega
    have hng : ¬ Grow1 h := fun hgr => by
      have h5 := grow1_out hgr
      rcases hc1 with ⟨e, _⟩ | ⟨_, _, er⟩
      · omega
      · rw [← er] at h5
        omega
    cases q with
    | zero => exact absurd (soon_zero hs) hng
    | succ q => exact .inr ⟨hi3, q, soon_three hs hng, by omega⟩
/-- The ghost of the loop: bytes that are still wanted, and rounds that may go by ahead of the next. -/
def Pot (M L n len i : Nat) (h : Int) (G : Nat) : Prop := ∃ g, Wait L i h g ∧ (n - len) * M + g ≤ G
theorem pot_any (M L n i : Nat) (h : Int) (hi : i ≤ L) : ∃ G, Pot M L n 0 i h G := ⟨_, _, wait_any L i h hi, Nat.le_refl _⟩
theorem pot_arith (M x y g G w : Nat) (h1 : x + M ≤ y) (hw : w < M) (hG : y + g ≤ G) (hpos : 0 < g) : x + w ≤ G - 1 ∧ G = G - 1 + 1 := by omega
theorem pot_grow {M L n len len' i i' : Nat} {h h' : Int} {G : Nat} (hM : L + 18446744073709551618 < M) (hp : Pot M L n len i h G) (hi : i' ≤ L) (hl : len < len') (hn : len < n) : ∃ G', G = G' + 1 ∧ Pot M L n len' i' h' G' := by
  obtain ⟨g, hw, hG⟩ := hp
  have hpos := wait_pos hw
  have h1 : (n - len') * M + M ≤ (n - len) * M := by
    rw [← Nat.succ_mul]
    exact Nat.mul_le_mul_right _ (by omega)
  have h2 := pot_arith M _ _ g G _ h1 hM hG hpos
  exact ⟨G - 1, h2.2, _, wait_any L i' h' hi, h2.1⟩
theorem pot_step {M L n len : Nat} {i : Nat} {h : Int} {G : Nat} (hp : Pot M L n len i h G) : ∃ G' g, G = G' + 1 ∧ Wait L i h (g + 1) ∧ (∀ i' h', Wait L i' h' g → Pot M L n len i' h' G') := by
  obtain ⟨g, hw, hG⟩ := hp
  have hpos := wait_pos hw
  obtain ⟨g, rfl⟩ : ∃ k, g = k + 1 := ⟨g - 1, by omega⟩
  exact ⟨G - 1, g, by omega, hw, fun i' h' hw' => ⟨g, hw', by omega⟩⟩
end Go.Proofs.YtbfddabljkoapaaGreatDoor

/-
  The drawing cursor: a text of a given length.
-/
namespace Go.Proofs.YtbfddabljkoapaaGreatDoor
open Go.RowKit
set_option linter.unusedVariables false
set_option linter.unusedSimpArgs false
set_option maxRecDepth 100000

theorem Gr.over {b B : Nat} {a w w' : World} (h : Gr b a w) (hb : Below B w w') (hB : a.heap.size ≤ B) : Gr b a w' :=
  ⟨hb.os.trans h.os, hb.tape.trans h.tape, hb.output.trans h.output, Nat.le_trans h.size hb.size, fun k hk hne => (hb.block k (Nat.lt_of_lt_of_le hk hB)).trans (h.block k hk hne)⟩
theorem own_gr {w w' : World} {base e size n b : Nat} {v : Value} {xs : List Value} (h : w.ownsRow base e size v n xs) (hg : Gr b w w') (hb : b < base) : w'.ownsRow base e size v n xs := by
  refine ⟨h.1, ?_⟩
  rcases h.2 with h' | ⟨g, c, cur, rfl, h1, h2, h3⟩
  · exact .inl h'
  · refine .inr ⟨g, c, cur, rfl, h1, (hg.block g (h.lt g rfl).2 ?_).trans h2, h3⟩
    intro e
    injection e with e
    have := (h.lt g rfl).1
    omega
/-- The text's bytes so far: a row of their own above the start; the cursor's state. -/
def TxtAt (w0 : World) (b : Nat) (A : Option Addr) (cap : Nat) (code : List UInt8) (i : Nat) (h : Int) (l : List UInt8) (o : Value) (w : World) : Prop :=
  w.ownsRow w0.heap.size 5 1 o l.length (l.map bv) ∧ CurX w b A cap code i h ∧ Gr b w0 w
/-- Behind an append. -/
theorem txt_app {w0 wr w' : World} {b : Nat} {A : Option Addr} {cap : Nat} {code : List UInt8} {i : Nat} {h : Int} {l : List UInt8} {o v' : Value} {x : Int} (ht : TxtAt w0 b A cap code i h l o wr) (hb : b < w0.heap.size) (hx : 0 ≤ x ∧ x < 256)
    (hown : w'.ownsRow w0.heap.size 5 1 v' (l.length + 1) (l.map bv ++ [.int .u8 x])) (hbl : Below w0.heap.size wr w') : ∃ y, TxtAt w0 b A cap code i h (l ++ [y]) v' w' := by
  refine ⟨UInt8.ofNat x.toNat, ?_, ht.2.1.below hbl hb, ht.2.2.over hbl (Nat.le_refl _)⟩
  have e : Value.int .u8 x = bv (UInt8.ofNat x.toNat) := by
    unfold bv
    congr 1
    rw [UInt8.toNat_ofNat']
    omega
  rw [e] at hown
  simpa using hown
theorem txt_gr {w0 wr w' : World} {b : Nat} {A : Option Addr} {cap : Nat} {code : List UInt8} {i i' : Nat} {h h' : Int} {l : List UInt8} {o : Value} (ht : TxtAt w0 b A cap code i h l o wr) (hb : b < w0.heap.size) (hc : CurX w' b A cap code i' h') (hg : Gr b wr w') : TxtAt w0 b A cap code i' h' l o w' :=
  ⟨own_gr ht.1 hg hb, hc, ht.2.2.trans hg⟩
theorem row_some {w : World} {base : Nat} {e : TypeId} {o : Value} {n : Nat} {xs : List Value} (h : w.ownsRow base e 1 o n xs) : ∃ A c, o = .slice A n c ∧ (0 < n → ∃ g, A = some ⟨g, 0, none⟩) := by
  rcases h.2 with ⟨rfl, rfl⟩ | ⟨g, c, cur, rfl, _⟩
  · exact ⟨none, 0, rfl, fun h => absurd h (by omega)⟩
  · exact ⟨_, _, rfl, fun _ => ⟨g, rfl⟩⟩
/-- The first bytes of a row as a text. -/
theorem run_prefix {w : World} {base g c n : Nat} {l : List UInt8} (h : w.ownsRow base 5 1 (.slice (some ⟨g, 0, none⟩) l.length c) l.length (l.map bv)) (hn : n ≤ l.length) :
    (convert 22 9 (.slice (some ⟨g, 0, none⟩) n c)).run Tryz.prog w = .ok (.string (str (l.take n))) w := by
  have hl : (l.take n).length = n := by rw [List.length_take]; omega
  have hh := run_convert_bytes_back (P := Tryz.prog) w 22 9 5 ⟨g, 0, none⟩ c (l.take n) Tryz.underlying22 Tryz.underlying5 Tryz.underlying9 (fun j hj => by
    rw [hl] at hj
    have hc := h.cellAt j (by omega)
    rw [Addr.add_lit]
    show w.cell? ⟨g, 0 + j, none⟩ = _
    rw [Nat.zero_add, hc, List.getElem?_map, List.getElem?_eq_getElem (by omega)]
    simp [bv])
  rw [hl] at hh
  exact hh

set_option maxHeartbeats 4000000 in
theorem dText (n : Nat) (b : Nat) (A : Option Addr) (cap : Nat) (code : List UInt8) (w : World) (hn : n ≤ 100) (hc : Cur w b A cap code) :
    Calls Tryz.prog 62 #[.pointer (some ⟨b, 0, none⟩), .int .i64 n] w fun e w' => (∃ s : ByteArray, s.size = n ∧ e = .returned (.string s)) ∧ Drawn w b A cap code w' := by
  obtain ⟨i0, h0, hx⟩ := hc.x
  have hbw : b < w.heap.size := hc.lt
  have hic : i0 ≤ code.length := hx.1
  obtain ⟨G0, hG0⟩ := pot_any (code.length + 18446744073709551619) code.length n i0 h0 hic
  have HPOT := Lib.hid hG0
  have HX := Lib.hid hx
  have HMM : Hid (code.length + 18446744073709551618 < code.length + 18446744073709551619) := Lib.hid (by omega)
  generalize hM : code.length + 18446744073709551619 = M at HPOT HMM
  clear hM hG0 hx hc
  go_enter Tryz.func62, Tryz.ntmps62
  go_wp2_with fail
  go_loopg [5] G0 (fun gk o wx => ∃ (l : List UInt8) (i : Nat) (h : Int), l.length ≤ n + 30 ∧ (∃ g c, o = .slice (some ⟨g, 0, none⟩) l.length c) ∧ Hid (TxtAt w b A cap code i h l o wx ∧ Pot M code.length n l.length i h gk))
  case atStart => exact ⟨[], i0, h0, by simp, ⟨_, _, rfl⟩, Lib.hid ⟨⟨own_empty w _ _, HX.out.below ((Below.refl _ _).alloc (Nat.le_refl _) _) hbw, (Gr.refl _ _).alloc _⟩, HPOT.out⟩⟩
  case round =>
    obtain ⟨l, i, h, hln, ⟨g, c, rfl⟩, HT⟩ := hrel
    by_cases hlt : l.length < n
    · have HC1 := Lib.hid (dBelowX 5 b A cap code i h wr (by omega) (by omega) HT.out.1.2.1)
      go_wp2_with fail
      refine HC1.out.mono ?_
      rintro e w1 ⟨r1, i1, h1, rfl, hn1, hc1, hg1⟩
      have T1 := Lib.hid (txt_gr HT.out.1 hbw hc1 hg1)
      have N1 := Lib.hid hn1
      clear hn1 hc1 hg1 HC1
      by_cases k0 : r1 % 5 = 0
      · have HC2 := Lib.hid (dByteX b A cap code i1 h1 w1 T1.out.2.1)
        rw [k0]
        go_wp2_with fail
        refine HC2.out.mono ?_
        rintro e w2 ⟨r2, i2, h2, rfl, hn2, hc2, hg2⟩
        have hr2 := hn2.1
        have T2 := Lib.hid (txt_gr T1.out hbw hc2 hg2)
        have hown := T2.out.1
        have hB := T2.out.2.2.size
        have hi2 := hc2.1
        clear hn2 hc2 hg2 HC2
        go_wp2_with (at_builtin; refine wpList_app rfl (.tmp 28) (.tmp 32) 22 rfl w.heap.size 5 Tryz.underlying22 infoU8 rfl (by decide) (W := w2) rfl (hown.alloc _) ((Below.refl _ _).alloc hB _) (Nat.le_trans hB (by simp)) _ 1 1 _ rfl rfl (cells_new _ _ _) (one_u8 _) (by unfold maxLen; omega) (by omega) ?_; intro v' w' hown' hb' hB')
        obtain ⟨y, hT⟩ := txt_app T2.out hbw (by omega) hown' hb'
        obtain ⟨A', c', rfl, hA'⟩ := row_some hown'
        obtain ⟨g', rfl⟩ := hA' (by omega)
        obtain ⟨G', hG, hP⟩ := pot_grow (len' := (l ++ [y]).length) (i' := i2) (h' := h2) HMM.out HT.out.2 hi2 (by simp) hlt
        go_roundg G'
        case measure => omega
        case rel => exact ⟨l ++ [y], i2, h2, by simp; omega, ⟨g', c', by simp⟩, Lib.hid ⟨hT, hP⟩⟩
      · have k0i : ¬ ((r1 % 5 : Nat) : Int) = 0 := by omega
        by_cases k1 : r1 % 5 = 1
        · have HC2 := Lib.hid (dBelowX 9 b A cap code i1 h1 w1 (by omega) (by omega) T1.out.2.1)
          rw [k1]
          go_wp2_with fail
          refine HC2.out.mono ?_
          rintro e w2 ⟨r2, i2, h2, rfl, hn2, hc2, hg2⟩
          have T2 := Lib.hid (txt_gr T1.out hbw hc2 hg2)
          have N2 := Lib.hid hn2
          have hk2 : r2 % 9 < 9 := Nat.mod_lt _ (by omega)
          generalize r2 % 9 = k2 at *
          clear hn2 hc2 hg2 HC2
          have HC3 := Lib.hid (dBelowX 4 b A cap code i2 h2 w2 (by omega) (by omega) T2.out.2.1)
          go_wp2_with fail
          refine HC3.out.mono ?_
          rintro e w3 ⟨r3, i3, h3, rfl, hn3, hc3, hg3⟩
          have T3 := Lib.hid (txt_gr T2.out hbw hc3 hg3)
          have N3 := Lib.hid hn3
          have hi3 := hc3.1
          have hk3 : r3 % 4 < 4 := Nat.mod_lt _ (by omega)
          generalize r3 % 4 = k3 at *
          clear hn3 hc3 hg3 HC3
          have hx : 0 ≤ (97 : Int) + (k3 : Int) ∧ (97 : Int) + (k3 : Int) < 256 := by omega
          go_wp2_with fail
          go_loopw [5, 8] (fun o x wr => ∃ (m : Nat) (l' : List UInt8), m ≤ k2 ∧ l'.length = l.length + m ∧ (m = 0 → l' = l) ∧ (∃ g c, o = .slice (some ⟨g, 0, none⟩) l'.length c) ∧ x = .int .i64 m ∧ Hid (TxtAt w b A cap code i3 h3 l' o wr)) (fun _ x _ => k2 - (intOf x).toNat)
          case atStart => exact ⟨0, l, Nat.zero_le _, rfl, fun _ => rfl, ⟨_, _, rfl⟩, rfl, T3⟩
          case round =>
            obtain ⟨m, l', hm, hll, hl0, ⟨g', c', rfl⟩, rfl, HTI⟩ := hrel
            by_cases hmk : m < k2
            · have hown := HTI.out.1
              have hB := HTI.out.2.2.size
              go_wp2_with (at_builtin; refine wpList_app rfl (.tmp 47) (.tmp 49) 22 rfl w.heap.size 5 Tryz.underlying22 infoU8 rfl (by decide) (W := wr) rfl (hown.alloc _) ((Below.refl _ _).alloc hB _) (Nat.le_trans hB (by simp)) _ 1 1 _ rfl rfl (cells_new _ _ _) (one_u8 _) (by unfold maxLen; omega) (by omega) ?_; intro v' w' hown' hb' hB')
              obtain ⟨y, hT⟩ := txt_app HTI.out hbw (by omega) hown' hb'
              obtain ⟨A', c2, rfl, hA'⟩ := row_some hown'
              obtain ⟨g2, rfl⟩ := hA' (by omega)
              go_roundw
              case rel => exact ⟨m + 1, l' ++ [y], hmk, by simp; omega, fun h => by omega, ⟨g2, c2, by simp⟩, by go_num, Lib.hid hT⟩
              case measure => simp [intOf]; omega
            · obtain rfl : m = k2 := by omega
              have HW := Lib.hid HT.out.2
              by_cases hz : m = 0
              · have hl' := hl0 hz
                subst hl'
                obtain ⟨G', q, hG, hw, hP⟩ := pot_step HT.out.2
                have hwt := wait_three hw N1.out N2.out N3.out (.inl k1)
                have HTI2 := Lib.hid HTI.out
                clear hl0
                go_wp2_with fail
                go_roundg G'
                case measure => omega
                case rel => exact ⟨l', i3, h3, hln, ⟨g', c', rfl⟩, Lib.hid ⟨HTI2.out, hP _ _ hwt⟩⟩
              · obtain ⟨G', hG, hP⟩ := pot_grow (len' := l'.length) (i' := i3) (h' := h3) HMM.out HT.out.2 hi3 (by omega) hlt
                go_wp2_with fail
                go_roundg G'
                case measure => omega
                case rel => exact ⟨l', i3, h3, by omega, ⟨g', c', rfl⟩, Lib.hid ⟨HTI.out, hP⟩⟩
        · have k1i : ¬ ((r1 % 5 : Nat) : Int) = 1 := by omega
          by_cases k2 : r1 % 5 = 2
          · by_cases hl0 : l.length = 0
            · obtain ⟨G', q, hG, hw, hP⟩ := pot_step HT.out.2
              have hwt := wait_one hw N1.out (.inr k2)
              have hl0i : ¬ ((0 : Int) < (l.length : Int)) := by omega
              clear hl0
              rw [k2]
              go_wp2_with fail
              go_roundg G'
              case measure => omega
              case rel => exact ⟨l, i1, h1, hln, ⟨g, c, rfl⟩, Lib.hid ⟨T1.out, hP _ _ hwt⟩⟩
            · have hl0i : (0 : Int) < (l.length : Int) := by omega
              have HC2 := Lib.hid (dBelowX l.length b A cap code i1 h1 w1 (by omega) (by omega) T1.out.2.1)
              rw [k2]
              go_wp2_with fail
              refine HC2.out.mono ?_
              rintro e w2 ⟨r2, i2, h2, rfl, hn2, hc2, hg2⟩
              have T2 := Lib.hid (txt_gr T1.out hbw hc2 hg2)
              have N2 := Lib.hid hn2
              have hk2 : r2 % l.length < l.length := Nat.mod_lt _ (by omega)
              generalize r2 % l.length = fr at *
              clear hn2 hc2 hg2 HC2
              have HC3 := Lib.hid (dBelowX 20 b A cap code i2 h2 w2 (by omega) (by omega) T2.out.2.1)
              go_wp2_with fail
              refine HC3.out.mono ?_
              rintro e w3 ⟨r3, i3, h3, rfl, hn3, hc3, hg3⟩
              have T3 := Lib.hid (txt_gr T2.out hbw hc3 hg3)
              have N3 := Lib.hid hn3
              have hi3 := hc3.1
              have hk3 : r3 % 20 < 20 := Nat.mod_lt _ (by omega)
              generalize r3 % 20 = k3 at *
              clear hn3 hc3 hg3 HC3
              go_wp2_with fail
              go_loopw [5, 11] (fun o x wr => ∃ (m : Nat) (l' : List UInt8), m ≤ k3 ∧ l'.length = l.length + m ∧ (m = 0 → l' = l) ∧ (∃ g c, o = .slice (some ⟨g, 0, none⟩) l'.length c) ∧ x = .int .i64 m ∧ Hid (TxtAt w b A cap code i3 h3 l' o wr)) (fun _ x _ => k3 - (intOf x).toNat)
              case atStart => exact ⟨0, l, Nat.zero_le _, rfl, fun _ => rfl, ⟨_, _, rfl⟩, rfl, T3⟩
              case round =>
                obtain ⟨m, l', hm, hll, hl1, ⟨g', c', rfl⟩, rfl, HTI⟩ := hrel
                by_cases hmk : m < k3
                · have hown := HTI.out.1
                  have hB := HTI.out.2.2.size
                  have hfl : fr + m < l'.length := by omega
                  have hfi : (fr : Int) + (m : Int) < (l'.length : Int) := by omega
                  have hmki : (m : Int) < (k3 : Int) := by omega
                  have hcell : wr.cell? ⟨g', fr + m, none⟩ = some (.int .u8 ((l'[fr + m]'hfl).toNat : Int)) := by
                    rw [hown.cellAt (fr + m) (by omega), List.getElem?_map, List.getElem?_eq_getElem hfl]
                    rfl
                  have hu8 : (l'[fr + m]'hfl).toNat < 256 := UInt8.toNat_lt _
                  generalize (l'[fr + m]'hfl).toNat = uu at hcell hu8
                  go_wp2_with (at_builtin; refine wpList_app rfl (.tmp 75) (.tmp 82) 22 rfl w.heap.size 5 Tryz.underlying22 infoU8 rfl (by decide) (W := wr) rfl (hown.alloc _) ((Below.refl _ _).alloc hB _) (Nat.le_trans hB (by simp)) _ 1 1 _ rfl rfl (cells_new _ _ _) (one_u8 _) (by unfold maxLen; omega) (by omega) ?_; intro v' w' hown' hb' hB')
                  obtain ⟨y, hT⟩ := txt_app HTI.out hbw (by omega) hown' hb'
                  obtain ⟨A', c2, rfl, hA'⟩ := row_some hown'
                  obtain ⟨g2, rfl⟩ := hA' (by omega)
                  go_roundw
                  case rel => exact ⟨m + 1, l' ++ [y], hmk, by simp; omega, fun h => by omega, ⟨g2, c2, by simp⟩, by go_num, Lib.hid hT⟩
                  case measure => simp [intOf]; omega
                · obtain rfl : m = k3 := by omega
                  by_cases hz : m = 0
                  · have hl' := hl1 hz
                    subst hl'
                    obtain ⟨G', q, hG, hw, hP⟩ := pot_step HT.out.2
                    have hwt := wait_three hw N1.out N2.out N3.out (.inr k2)
                    have HTI2 := Lib.hid HTI.out
                    clear hl1
                    go_wp2_with fail
                    go_roundg G'
                    case measure => omega
                    case rel => exact ⟨l', i3, h3, hln, ⟨g', c', rfl⟩, Lib.hid ⟨HTI2.out, hP _ _ hwt⟩⟩
                  · obtain ⟨G', hG, hP⟩ := pot_grow (len' := l'.length) (i' := i3) (h' := h3) HMM.out HT.out.2 hi3 (by omega) hlt
                    go_wp2_with fail
                    go_roundg G'
                    case measure => omega
                    case rel => exact ⟨l', i3, h3, by omega, ⟨g', c', rfl⟩, Lib.hid ⟨HTI.out, hP⟩⟩
          · have k2i : ¬ ((r1 % 5 : Nat) : Int) = 2 := by omega
            have HC2 := Lib.hid (dBelowX 26 b A cap code i1 h1 w1 (by omega) (by omega) T1.out.2.1)
            go_wp2_with fail
            refine HC2.out.mono ?_
            rintro e w2 ⟨r2, i2, h2, rfl, hn2, hc2, hg2⟩
            have hk3 : r2 % 26 < 26 := Nat.mod_lt _ (by omega)
            have T2 := Lib.hid (txt_gr T1.out hbw hc2 hg2)
            have hown := T2.out.1
            have hB := T2.out.2.2.size
            have hi2 := hc2.1
            generalize r2 % 26 = k3 at *
            have hx : 0 ≤ (97 : Int) + (k3 : Int) ∧ (97 : Int) + (k3 : Int) < 256 := by omega
            clear hn2 hc2 hg2 HC2
            go_wp2_with (at_builtin; refine wpList_app rfl (.tmp 19) (.tmp 24) 22 rfl w.heap.size 5 Tryz.underlying22 infoU8 rfl (by decide) (W := w2) rfl (hown.alloc _) ((Below.refl _ _).alloc hB _) (Nat.le_trans hB (by simp)) _ 1 1 _ rfl rfl (cells_new _ _ _) (one_u8 _) (by unfold maxLen; omega) (by omega) ?_; intro v' w' hown' hb' hB')
            obtain ⟨y, hT⟩ := txt_app T2.out hbw (by omega) hown' hb'
            obtain ⟨A', c', rfl, hA'⟩ := row_some hown'
            obtain ⟨g', rfl⟩ := hA' (by omega)
            obtain ⟨G', hG, hP⟩ := pot_grow (len' := (l ++ [y]).length) (i' := i2) (h' := h2) HMM.out HT.out.2 hi2 (by simp) hlt
            go_roundg G'
            case measure => omega
            case rel => exact ⟨l ++ [y], i2, h2, by simp; omega, ⟨g', c', by simp⟩, Lib.hid ⟨hT, hP⟩⟩
    · have hcv := run_prefix (n := n) HT.out.1.1 (by omega)
      have hnl : ¬ (l.length : Int) < (n : Int) := by omega
      have hc1 : l.length ≤ c := by
        have := HT.out.1.1
        rcases this.2 with ⟨h1, _⟩ | ⟨g1, c1, cur, h1, h2, h3, h4, _⟩
        · cases h1
        · cases h1
          exact h4
      go_wp2_with fail
      go_ret
      exact ⟨⟨_, by rw [str_len, List.length_take]; omega, rfl⟩, HT.out.1.2.1.cur, HT.out.1.2.2⟩
end Go.Proofs.YtbfddabljkoapaaGreatDoor

/-
  DecText and ReadDec, plainly: a number's digits.
-/
namespace Go.Proofs.YtbfddabljkoapaaGreatDoor
open Go.RowKit
set_option linter.unusedVariables false

/-- The digits of a number, none for 0. -/
def dd (q : Nat) : List UInt8 := if q = 0 then [] else Lib.decDigits q
theorem dd_step (q : Nat) (h : q ≠ 0) : dd (q / 10) ++ [UInt8.ofNat (48 + q % 10)] = dd q := by
  unfold dd
  rw [if_neg h]
  by_cases h1 : q < 10
  · rw [if_pos (by omega), Lib.decDigits, dif_pos h1, show q % 10 = q by omega]; rfl
  · rw [if_neg (by omega)]
    conv => rhs; rw [Lib.decDigits, dif_neg h1]
theorem dd_pos (q : Nat) (h : q ≠ 0) : dd q = Lib.decDigits q := by unfold dd; rw [if_neg h]
theorem itoa_pos (n : Nat) : Lib.itoa (n : Int) = Lib.decDigits n := by
  unfold Lib.itoa
  rw [if_neg (by omega), Int.toNat_natCast]
theorem itoa_neg (n : Nat) (h : 0 < n) : Lib.itoa (-(n : Int)) = 45 :: Lib.decDigits n := by
  unfold Lib.itoa
  rw [if_pos (by omega), Int.natAbs_neg, Int.natAbs_natCast]
theorem dig_one : ∀ d : Fin 10, (⟨#[48, 49, 50, 51, 52, 53, 54, 55, 56, 57]⟩ : ByteArray).extract d.val (d.val + 1) = str [UInt8.ofNat (48 + d.val)] := by decide +kernel
theorem dig_at (d : Nat) (h : d < 10) : (⟨#[48, 49, 50, 51, 52, 53, 54, 55, 56, 57]⟩ : ByteArray).extract d (d + 1) = str [UInt8.ofNat (48 + d)] := dig_one ⟨d, h⟩
theorem nDigits_le (u k : Nat) (h : u < 10 ^ k) (hk : 1 ≤ k) : Lib.nDigits u ≤ k := by
  by_cases h0 : u = 0
  · subst h0; rw [Lib.nDigits_small (by omega)]; exact hk
  · refine Nat.le_of_not_lt fun hh => ?_
    have : 10 ^ (Lib.nDigits u - 1) ≤ u := by
      clear h hk hh
      induction u using Nat.strongRecOn with
      | ind u ih =>
        by_cases h1 : u < 10
        · rw [Lib.nDigits_small h1]; simp; omega
        · rw [Lib.nDigits_big h1]
          have := ih (u / 10) (by omega) (by omega)
          have hp := Lib.nDigits_pos (u / 10)
          obtain ⟨m, hm⟩ : ∃ m, Lib.nDigits (u / 10) = m + 1 := ⟨Lib.nDigits (u / 10) - 1, by omega⟩
          rw [hm] at this ⊢
          simp only [Nat.add_sub_cancel] at *
          rw [Nat.pow_succ]
          omega
    have h2 : 10 ^ k ≤ 10 ^ (Lib.nDigits u - 1) := Nat.pow_le_pow_right (by omega) (by omega)
    omega
theorem dec_len (u : Nat) (h : u < 10000000000000000000) : (Lib.decDigits u).length ≤ 19 := by
  rw [Lib.decDigits_length]
  exact nDigits_le u 19 (by omega) (by omega)
theorem dec_ne (u : Nat) : Lib.decDigits u ≠ [] := by
  intro h
  have := Lib.decDigits_length u
  have h2 := Lib.nDigits_pos u
  rw [h] at this
  simp at this
  omega
theorem dec_digit (u : Nat) : ∀ b ∈ Lib.decDigits u, 48 ≤ b.toNat ∧ b.toNat ≤ 57 := by
  induction u using Nat.strongRecOn with
  | ind u ih =>
    intro b hb
    rw [Lib.decDigits] at hb
    split at hb
    · simp only [List.mem_singleton] at hb
      subst hb
      rw [UInt8.toNat_ofNat']
      omega
    · rcases List.mem_append.1 hb with hb | hb
      · exact ih (u / 10) (by omega) b hb
      · simp only [List.mem_singleton] at hb
        subst hb
        rw [UInt8.toNat_ofNat']
        omega
/-- The number of some digits. -/
def dval (l : List UInt8) : Nat := l.foldl (fun n b => 10 * n + (b.toNat - 48)) 0
theorem dval_snoc (l : List UInt8) (b : UInt8) : dval (l ++ [b]) = 10 * dval l + (b.toNat - 48) := by simp [dval]
theorem dval_dec (u : Nat) : dval (Lib.decDigits u) = u := by
  induction u using Nat.strongRecOn with
  | ind u ih =>
    rw [Lib.decDigits]
    split
    · simp [dval]; omega
    · rw [dval_snoc, ih (u / 10) (by omega), UInt8.toNat_ofNat']
      omega
theorem parse_dec (l : List UInt8) : ∀ acc, (∀ b ∈ l, 48 ≤ b.toNat ∧ b.toNat ≤ 57) → l.foldl (fun n b => 10 * n + (b.toNat - 48)) acc < 18446744073709551616 → Lib.parseUint10 acc l = .ok (l.foldl (fun n b => 10 * n + (b.toNat - 48)) acc) := by
  induction l with
  | nil => intro acc _ _; rfl
  | cons b l ih =>
    intro acc hd hlt
    have hb := hd b (by simp)
    have hmono : ∀ (r : List UInt8) (a : Nat), a ≤ r.foldl (fun n b => 10 * n + (b.toNat - 48)) a := by
      intro r
      induction r with
      | nil => intro a; exact Nat.le_refl _
      | cons x r ih2 => intro a; rw [List.foldl_cons]; exact Nat.le_trans (by omega) (ih2 _)
    have hm := hmono l (10 * acc + (b.toNat - 48))
    rw [List.foldl_cons] at hlt
    rw [Lib.parseUint10, if_pos hb, if_neg (by omega), if_neg (by omega), List.foldl_cons, Nat.mul_comm acc 10]
    exact ih _ (fun x hx => hd x (by simp [hx])) hlt
theorem parseMag_dec (u : Nat) (h : u < 18446744073709551616) : Lib.parseMag (Lib.decDigits u) = .ok u := by
  unfold Lib.parseMag
  rw [if_neg (dec_ne u)]
  have hv := dval_dec u
  unfold dval at hv
  rw [parse_dec _ 0 (dec_digit u) (by rw [hv]; exact h), hv]
theorem atoi_itoa (v : Int) (h : -9223372036854775808 ≤ v ∧ v ≤ 9223372036854775807) : Lib.atoiAll (Lib.itoa v) = .ok v := by
  by_cases h0 : v < 0
  · obtain ⟨u, rfl⟩ : ∃ u : Nat, v = -(u : Int) := ⟨v.natAbs, by omega⟩
    rw [itoa_neg u (by omega)]
    unfold Lib.atoiAll
    have e : (45 : UInt8).toNat = 45 := rfl
    simp only [e, or_true, if_true]
    rw [parseMag_dec u (by omega)]
    simp
    omega
  · obtain ⟨u, rfl⟩ := Int.eq_ofNat_of_zero_le (show 0 ≤ v by omega)
    rw [itoa_pos]
    have hne := dec_ne u
    have hd := dec_digit u
    have hp := parseMag_dec u (by omega)
    revert hne hd hp
    generalize Lib.decDigits u = l
    intro hne hd hp
    cases l with
    | nil => exact absurd rfl hne
    | cons c r =>
      have hc := hd c (by simp)
      unfold Lib.atoiAll
      simp only [show ¬ (c.toNat = 43 ∨ c.toNat = 45) by omega, if_false]
      rw [hp]
      simp only [show ¬ c.toNat = 45 by omega, if_false, not_false_eq_true, true_and, false_and]
      rw [if_neg (by omega)]
end Go.Proofs.YtbfddabljkoapaaGreatDoor

/-
  DecText of the reference.
-/
namespace Go.Proofs.YtbfddabljkoapaaGreatDoor
open Go.RowKit
set_option linter.unusedVariables false

theorem str_cons (b : UInt8) (l : List UInt8) : str [b] ++ str l = str (b :: l) := by
  apply ByteArray.ext
  simp [str]
theorem strlen (l : List UInt8) : (str l).size = l.length := by simp [str, ByteArray.size]
theorem dd_cons (q u : Nat) (l : List UInt8) (h : q ≠ 0) (hl : dd q ++ l = dd u) : dd (q / 10) ++ (UInt8.ofNat (48 + q % 10) :: l) = dd u := by
  rw [← hl, ← dd_step q h]; simp

set_option maxHeartbeats 1000000 in
theorem specDecText_pos (u : Nat) (w : World) (h0 : 0 < u) (hu : u < 9223372036854775808) :
    Calls Tryz.prog 25 #[.int .i64 (u : Int)] w fun e w' => e = .returned (.string (str (Lib.itoa u))) ∧ w = w' := by
  have HR := Lib.hid (itoa_pos u)
  have HL := Lib.hid (dec_len u (by omega))
  have hz : ((u : Int) == 0) = false := by rw [beq_eq_false_iff_ne]; omega
  have hneg : decide ((u : Int) < 0) = false := decide_eq_false (by omega)
  go_enter Tryz.func25, Tryz.ntmps25
  go_wp2_with fail
  go_loop [3, 4] (fun o m => ∃ (q : Nat) (l : List UInt8), q ≤ u ∧ dd q ++ l = dd u ∧ m = .int .i64 (q : Int) ∧ o = .string (str l)) (fun _ m => (intOf m).toNat)
  case atStart => exact ⟨u, [], by omega, by simp, rfl, rfl⟩
  case round =>
    obtain ⟨q, l, hq, hl, rfl, rfl⟩ := hrel
    by_cases hq0 : q = 0
    · subst hq0
      have HE : Hid (str l = str (Lib.itoa u)) := Lib.hid (by rw [HR.out, ← dd_pos u (by omega), ← hl]; simp [dd])
      clear hl
      go_wp2_with fail
      go_ret
      exact ⟨congrArg (fun x => Ending.returned (.string x)) HE.out, rfl⟩
    · have HQ := Lib.hid (dd_cons q u l hq0 hl)
      have HD := Lib.hid (dig_at (q % 10) (by omega))
      have hlen : (str l).size ≤ 19 := by
        rw [strlen]
        have h1 := HL.out
        rw [← dd_pos u (by omega), ← hl, List.length_append] at h1
        omega
      have hqz : ((q : Int) == 0) = false := by rw [beq_eq_false_iff_ne]; omega
      clear hl
      go_wp2_with fail
      go_round
      case rel => refine ⟨q / 10, UInt8.ofNat (48 + q % 10) :: l, by omega, HQ.out, by go_num, ?_⟩; rw [HD.out, str_cons]
      case measure => simp [intOf]; omega

theorem neg_tdiv (q : Nat) : Int.tdiv (-(q : Int)) 10 = -((q / 10 : Nat) : Int) := by
  rw [Int.neg_tdiv]; rfl
theorem neg_tmod (q : Nat) : Int.tmod (-(q : Int)) 10 = -((q % 10 : Nat) : Int) := by
  rw [Int.neg_tmod]; rfl
set_option maxHeartbeats 1000000 in
theorem specDecText_neg (u : Nat) (w : World) (h0 : 0 < u) (hu : u ≤ 9223372036854775808) :
    Calls Tryz.prog 25 #[.int .i64 (-(u : Int))] w fun e w' => e = .returned (.string (str (Lib.itoa (-(u : Int))))) ∧ w = w' := by
  have HR := Lib.hid (itoa_neg u h0)
  have HL := Lib.hid (dec_len u (by omega))
  have hz : (-(u : Int) == 0) = false := by rw [beq_eq_false_iff_ne]; omega
  have hneg : decide (-(u : Int) < 0) = true := decide_eq_true (by omega)
  go_enter Tryz.func25, Tryz.ntmps25
  go_wp2_with fail
  go_loop [3, 4, 5] (fun o m _ => ∃ (q : Nat) (l : List UInt8), q ≤ u ∧ dd q ++ l = dd u ∧ m = .int .i64 (-(q : Int)) ∧ o = .string (str l)) (fun _ m _ => (intOf m).natAbs)
  case atStart => exact ⟨u, [], by omega, by simp, rfl, rfl⟩
  case round =>
    obtain ⟨q, l, hq, hl, rfl, rfl⟩ := hrel
    have hlen : (str l).size ≤ 19 := by
      rw [strlen]
      have h1 := HL.out
      rw [← dd_pos u (by omega), ← hl, List.length_append] at h1
      omega
    by_cases hq0 : q = 0
    · subst hq0
      have HE : Hid (str [45] ++ str l = str (Lib.itoa (-(u : Int)))) := Lib.hid (by rw [HR.out, str_cons, ← dd_pos u (by omega), ← hl]; simp [dd])
      clear hl
      go_wp2_with fail
      go_ret
      exact ⟨congrArg (fun x => Ending.returned (.string x)) HE.out, rfl⟩
    · have HQ := Lib.hid (dd_cons q u l hq0 hl)
      have HD := Lib.hid (dig_at (q % 10) (by omega))
      have hqz : (-(q : Int) == 0) = false := by rw [beq_eq_false_iff_ne]; omega
      have ht1 := neg_tdiv q
      have ht2 := neg_tmod q
      clear hl
      by_cases hd : q % 10 = 0
      · rw [hd] at ht2
        have hlt : decide (-((0 : Nat) : Int) < 0) = false := rfl
        go_wp2_with fail
        go_round
        case rel => refine ⟨q / 10, UInt8.ofNat (48 + q % 10) :: l, by omega, HQ.out, by go_num, ?_⟩; have hx := HD.out; rw [hd] at hx; rw [hx, hd, str_cons]
        case measure => simp only [intOf]; omega
      · have hlt : decide (-((q % 10 : Nat) : Int) < 0) = true := decide_eq_true (by omega)
        go_wp2_with fail
        go_round
        case rel => refine ⟨q / 10, UInt8.ofNat (48 + q % 10) :: l, by omega, HQ.out, by go_num, ?_⟩; rw [HD.out, str_cons]
        case measure => simp only [intOf]; omega

theorem specDecText (n : Int) (w : World) (h : -9223372036854775808 ≤ n ∧ n ≤ 9223372036854775807) :
    Calls Tryz.prog 25 #[.int .i64 n] w fun e w' => e = .returned (.string (str (Lib.itoa n))) ∧ w = w' := by
  by_cases h0 : n = 0
  · subst h0
    have HE : Hid ((⟨#[48]⟩ : ByteArray) = str (Lib.itoa 0)) := Lib.hid (by decide +kernel)
    go_enter Tryz.func25, Tryz.ntmps25
    go_wp2_with fail
    go_ret
    exact ⟨congrArg (fun x => Ending.returned (.string x)) HE.out, rfl⟩
  · by_cases hn : n < 0
    · obtain ⟨u, rfl⟩ : ∃ u : Nat, n = -(u : Int) := ⟨n.natAbs, by omega⟩
      exact specDecText_neg u w (by omega) (by omega)
    · obtain ⟨u, rfl⟩ := Int.eq_ofNat_of_zero_le (show 0 ≤ n by omega)
      exact specDecText_pos u w (by omega) (by omega)
end Go.Proofs.YtbfddabljkoapaaGreatDoor

/-
  The draws of FnQuote.
-/
namespace Go.Proofs.YtbfddabljkoapaaGreatDoor
open Go.RowKit
set_option linter.unusedVariables false
set_option linter.unusedSimpArgs false
set_option maxRecDepth 100000

theorem quoteB_size (s : ByteArray) : (quoteB s).size ≤ 6 * s.size + 2 := by
  unfold quoteB
  split
  · rw [str_len, List.length_append]
    have := qTo_len s s.size
    simp; omega
  · exact Nat.zero_le _
set_option maxHeartbeats 2000000 in
theorem drawQuote (A : Option Addr) (cap : Nat) (code : List UInt8) (w : World) (hat : At1 w w.heap.size A (code.map bv)) (hn : code.length ≤ 1000000000) :
    Calls Tryz.prog 7 #[.slice A code.length cap] w fun e w' => Drew 20 w e w' := by
  have HN := Lib.hid (dNew A cap code w hat hn)
  clear hat
  go_enter Tryz.func7, Tryz.ntmps7
  go_wp2_with fail
  refine HN.out.mono ?_
  rintro e w1 ⟨rfl, hc1, hb1⟩
  go_wp2_with fail
  refine (dSome _ A cap code w1 hc1).mono ?_
  rintro e w2 ⟨⟨s, hs, rfl⟩, hd2⟩
  go_wp2_with fail
  refine (dBent s _ A cap code w2 (by omega) hd2.1).mono ?_
  rintro e w3 ⟨⟨t, ht, rfl⟩, hd3⟩
  go_wp2_with fail
  go_ret
  exact ⟨⟨t, by omega, rfl⟩, (hd2.trans hd3).toBelow hb1 (Nat.le_refl _)⟩
def unL : List ByteArray := [⟨#[92, 117, 48, 48, 52, 49]⟩, ⟨#[92, 117, 100, 56, 51, 100, 92, 117, 100, 101, 48, 48]⟩, ⟨#[92, 117, 100, 56, 51, 100]⟩, ⟨#[92, 117, 100, 101, 48, 48]⟩, ⟨#[92, 117, 48, 48, 69, 57]⟩, ⟨#[92, 47]⟩, ⟨#[92, 120]⟩, ⟨#[92, 117, 49, 50]⟩, ⟨#[10]⟩, ⟨#[92, 117, 100, 56, 51, 100, 92, 117, 48, 48, 52, 49]⟩, ⟨#[97, 92]⟩]
theorem un_size : ∀ s ∈ unL, s.size ≤ 12 := by decide
def unI : List Int := [1, 1, 1, 1, 0, 2, -1, 9223372036854775807]
theorem unI_range : ∀ z ∈ unI, -9223372036854775808 ≤ z ∧ z ≤ 9223372036854775807 := by decide
set_option maxHeartbeats 4000000 in
theorem drawUnquote (A : Option Addr) (cap : Nat) (code : List UInt8) (w : World) (hat : At1 w w.heap.size A (code.map bv)) (hn : code.length ≤ 1000000000) :
    Calls Tryz.prog 9 #[.slice A code.length cap] w fun e w' => (∃ (t : ByteArray) (z : Int), t.size ≤ 200 ∧ (-9223372036854775808 ≤ z ∧ z ≤ 9223372036854775807) ∧ e = .returned (.tuple #[.string t, .int .i64 z])) ∧ Below w.heap.size w w' := by
  have HN := Lib.hid (dNew A cap code w hat hn)
  clear hat
  go_enter Tryz.func9, Tryz.ntmps9
  go_wp2_with fail
  refine HN.out.mono ?_
  rintro e w1 ⟨rfl, hc1, hb1⟩
  go_wp2_with fail
  refine (dSome _ A cap code w1 hc1).mono ?_
  rintro e w2 ⟨⟨s, hs, rfl⟩, hd2⟩
  have hqs := quoteB_size s
  have HQ := Lib.hid (fun W => specQuote s W (by omega))
  generalize quoteB s = q at *
  go_wp2_with fail
  refine (HQ.out _).mono ?_
  rintro e w3 ⟨rfl, hb3⟩
  have hd3 := hd2.trans (Drawn.of hd2.1 hb3)
  have HD3 := Lib.hid hd3
  clear hd3 hd2 HQ
  go_wp2_with fail
  refine (dOnce 3 _ A cap code w3 (by omega) (by omega) HD3.out.1).mono ?_
  rintro e w4 ⟨⟨r, rfl⟩, hd4⟩
  have HD4 := Lib.hid (HD3.out.trans hd4)
  clear hd4
  have hx1 : (ByteArray.mk #[120]).size = 1 := rfl
  have hx2 : (ByteArray.mk #[121]).size = 1 := rfl
  have hx3 : (ByteArray.mk #[34]).size = 1 := rfl
  cases r with
  | true =>
    go_wp2_with fail
    refine (dPickNew unL _ A cap code _ (by decide) (by decide) HD4.out.1).mono ?_
    rintro e w5 ⟨⟨p, hp, rfl⟩, hd5⟩
    have hps := un_size p hp
    have HD5 := Lib.hid (HD4.out.trans hd5)
    clear hp hd5
    have hq2 : (ByteArray.mk #[34] ++ p ++ ByteArray.mk #[34]).size ≤ 98 := by rw [ByteArray.size_append, ByteArray.size_append]; omega
    go_wp2_with fail
    refine (dBent (ByteArray.mk #[34] ++ p ++ ByteArray.mk #[34]) _ A cap code w5 (by omega) HD5.out.1).mono ?_
    rintro e w6 ⟨⟨t, ht, rfl⟩, hd6⟩
    have HD6 := Lib.hid (HD5.out.trans hd6)
    have ht2 : t.size ≤ 99 := by omega
    clear hd6 ht
    go_wp2_with fail
    refine (dPickIntNew unI _ A cap code _ (by decide) (by decide) HD6.out.1).mono ?_
    rintro e w7 ⟨⟨z, hz, rfl⟩, hd7⟩
    have hzr := unI_range z hz
    clear hz
    go_wp2_with fail
    go_ret2
    exact ⟨⟨_, z, by rw [ByteArray.size_append, ByteArray.size_append]; omega, hzr, rfl⟩, (HD6.out.trans hd7).toBelow hb1 (Nat.le_refl _)⟩
  | false =>
    go_wp2_with fail
    refine (dBent q _ A cap code w4 (by omega) HD4.out.1).mono ?_
    rintro e w6 ⟨⟨t, ht, rfl⟩, hd6⟩
    have HD6 := Lib.hid (HD4.out.trans hd6)
    have ht2 : t.size ≤ 99 := by omega
    clear hd6 ht
    go_wp2_with fail
    refine (dPickIntNew unI _ A cap code _ (by decide) (by decide) HD6.out.1).mono ?_
    rintro e w7 ⟨⟨z, hz, rfl⟩, hd7⟩
    have hzr := unI_range z hz
    clear hz
    go_wp2_with fail
    go_ret2
    exact ⟨⟨_, z, by rw [ByteArray.size_append, ByteArray.size_append]; omega, hzr, rfl⟩, (HD6.out.trans hd7).toBelow hb1 (Nat.le_refl _)⟩
set_option maxHeartbeats 2000000 in
theorem drawPutHex (A : Option Addr) (cap : Nat) (code : List UInt8) (w : World) (hat : At1 w w.heap.size A (code.map bv)) (hn : code.length ≤ 1000000000) :
    Calls Tryz.prog 12 #[.slice A code.length cap] w fun e w' => Drew 20 w e w' := by
  have HN := Lib.hid (dNew A cap code w hat hn)
  clear hat
  go_enter Tryz.func12, Tryz.ntmps12
  go_wp2_with fail
  refine HN.out.mono ?_
  rintro e w1 ⟨rfl, hc1, hb1⟩
  go_wp2_with fail
  refine (dBelow 12 _ A cap code w1 (by omega) (by omega) hc1).mono ?_
  rintro e w2 ⟨⟨n, hnn, rfl⟩, hd2⟩
  go_wp2_with fail
  refine (dText n _ A cap code w2 (by omega) hd2.1).mono ?_
  rintro e w3 ⟨⟨s, hs, rfl⟩, hd3⟩
  go_wp2_with fail
  go_ret
  exact ⟨⟨s, by omega, rfl⟩, (hd2.trans hd3).toBelow hb1 (Nat.le_refl _)⟩
set_option maxHeartbeats 2000000 in
theorem drawGetHex (A : Option Addr) (cap : Nat) (code : List UInt8) (w : World) (hat : At1 w w.heap.size A (code.map bv)) (hn : code.length ≤ 1000000000) :
    Calls Tryz.prog 14 #[.slice A code.length cap] w fun e w' => Drew 40 w e w' := by
  have HN := Lib.hid (dNew A cap code w hat hn)
  clear hat
  go_enter Tryz.func14, Tryz.ntmps14
  go_wp2_with fail
  refine HN.out.mono ?_
  rintro e w1 ⟨rfl, hc1, hb1⟩
  go_wp2_with fail
  refine (dBelow 12 _ A cap code w1 (by omega) (by omega) hc1).mono ?_
  rintro e w2 ⟨⟨n, hnn, rfl⟩, hd2⟩
  go_wp2_with fail
  refine (dText n _ A cap code w2 (by omega) hd2.1).mono ?_
  rintro e w3 ⟨⟨s, hs, rfl⟩, hd3⟩
  have HD3 := Lib.hid (hd2.trans hd3)
  have hhs : (str (hexOf s.data.toList)).size ≤ 22 := by rw [str_len, hexOf_len, ← Lib.size_eq]; omega
  have HP := Lib.hid (fun W => specPutHex s W (by omega))
  generalize str (hexOf s.data.toList) = q at *
  go_wp2_with fail
  refine (HP.out _).mono ?_
  rintro e w4 ⟨rfl, hb4⟩
  have HD4 := Lib.hid (HD3.out.trans (Drawn.of HD3.out.1 hb4))
  go_wp2_with fail
  refine (dBent q _ A cap code w4 (by omega) HD4.out.1).mono ?_
  rintro e w5 ⟨⟨t, ht, rfl⟩, hd5⟩
  go_wp2_with fail
  go_ret
  exact ⟨⟨t, by omega, rfl⟩, (HD4.out.trans hd5).toBelow hb1 (Nat.le_refl _)⟩
def dtL (r : Int) : List Int := [0, -1, 10, 9223372036854775807, -9223372036854775808, r]
theorem dt_range (r : Int) (h : 0 ≤ r ∧ r ≤ 100000) : ∀ z ∈ dtL r, -9223372036854775808 ≤ z ∧ z ≤ 9223372036854775807 := by
  intro z hz
  simp only [dtL, List.mem_cons, List.not_mem_nil, or_false] at hz
  omega
set_option maxHeartbeats 2000000 in
theorem drawDecText (A : Option Addr) (cap : Nat) (code : List UInt8) (w : World) (hat : At1 w w.heap.size A (code.map bv)) (hn : code.length ≤ 1000000000) :
    Calls Tryz.prog 17 #[.slice A code.length cap] w fun e w' => (∃ z : Int, (-9223372036854775808 ≤ z ∧ z ≤ 9223372036854775807) ∧ e = .returned (.int .i64 z)) ∧ Below w.heap.size w w' := by
  have HN := Lib.hid (dNew A cap code w hat hn)
  clear hat
  go_enter Tryz.func17, Tryz.ntmps17
  go_wp2_with fail
  refine HN.out.mono ?_
  rintro e w1 ⟨rfl, hc1, hb1⟩
  go_wp2_with fail
  refine (dBelow 100000 _ A cap code w1 (by omega) (by omega) hc1).mono ?_
  rintro e w2 ⟨⟨r, hr, rfl⟩, hd2⟩
  go_wp2_with fail
  refine (dPickIntNew (dtL r) _ A cap code _ (by simp [dtL]) (by simp [dtL]) hd2.1).mono ?_
  rintro e w3 ⟨⟨z, hz, rfl⟩, hd3⟩
  have hzr := dt_range r ⟨by omega, by omega⟩ z hz
  clear hz
  go_wp2_with fail
  go_ret
  exact ⟨⟨z, hzr, rfl⟩, (hd2.trans hd3).toBelow hb1 (Nat.le_refl _)⟩
def rdL : List ByteArray := [⟨#[]⟩, ⟨#[45]⟩, ⟨#[45, 48]⟩, ⟨#[48, 48]⟩, ⟨#[57, 50, 50, 51, 51, 55, 50, 48, 51, 54, 56, 53, 52, 55, 55, 53, 56, 48, 55]⟩, ⟨#[57, 50, 50, 51, 51, 55, 50, 48, 51, 54, 56, 53, 52, 55, 55, 53, 56, 48, 56]⟩, ⟨#[45, 57, 50, 50, 51, 51, 55, 50, 48, 51, 54, 56, 53, 52, 55, 55, 53, 56, 48, 56]⟩, ⟨#[45, 57, 50, 50, 51, 51, 55, 50, 48, 51, 54, 56, 53, 52, 55, 55, 53, 56, 48, 57]⟩, ⟨#[49, 56, 52, 52, 54, 55, 52, 52, 48, 55, 51, 55, 48, 57, 53, 53, 49, 54, 49, 55]⟩, ⟨#[49, 120]⟩, ⟨#[43, 49]⟩]
theorem rd_size : ∀ s ∈ rdL, s.size ≤ 20 := by decide
def rdI (r : Int) : List Int := [0, -1, 10, r]
theorem rdI_range (r : Int) (h : 0 ≤ r ∧ r ≤ 100000) : ∀ z ∈ rdI r, -9223372036854775808 ≤ z ∧ z ≤ 9223372036854775807 := by
  intro z hz
  simp only [rdI, List.mem_cons, List.not_mem_nil, or_false] at hz
  omega
theorem itoa_size (v : Int) (h : -9223372036854775808 ≤ v ∧ v ≤ 9223372036854775807) : (str (Lib.itoa v)).size ≤ 20 := by
  rw [strlen]
  rcases (show v < 0 ∨ 0 ≤ v by omega) with h0 | h0
  · obtain ⟨u, rfl⟩ : ∃ u : Nat, v = -(u : Int) := ⟨v.natAbs, by omega⟩
    rw [itoa_neg u (by omega), List.length_cons]
    have := dec_len u (by omega)
    omega
  · obtain ⟨u, rfl⟩ := Int.eq_ofNat_of_zero_le h0
    rw [itoa_pos u]
    have := dec_len u (by omega)
    omega
set_option maxHeartbeats 2000000 in
theorem drawReadDec (A : Option Addr) (cap : Nat) (code : List UInt8) (w : World) (hat : At1 w w.heap.size A (code.map bv)) (hn : code.length ≤ 1000000000) :
    Calls Tryz.prog 18 #[.slice A code.length cap] w fun e w' => Drew 20 w e w' := by
  have HN := Lib.hid (dNew A cap code w hat hn)
  clear hat
  go_enter Tryz.func18, Tryz.ntmps18
  go_wp2_with fail
  refine HN.out.mono ?_
  rintro e w1 ⟨rfl, hc1, hb1⟩
  go_wp2_with fail
  refine (dOnce 2 _ A cap code w1 (by omega) (by omega) hc1).mono ?_
  rintro e w2 ⟨⟨r, rfl⟩, hd2⟩
  cases r with
  | true =>
    go_wp2_with fail
    refine (dPickNew rdL _ A cap code _ (by decide) (by decide) hd2.1).mono ?_
    rintro e w3 ⟨⟨p, hp, rfl⟩, hd3⟩
    have hps := rd_size p hp
    clear hp
    go_wp2_with fail
    go_ret
    exact ⟨⟨p, by omega, rfl⟩, (hd2.trans hd3).toBelow hb1 (Nat.le_refl _)⟩
  | false =>
    go_wp2_with fail
    refine (dBelow 100000 _ A cap code w2 (by omega) (by omega) hd2.1).mono ?_
    rintro e w3 ⟨⟨r, hr, rfl⟩, hd3⟩
    go_wp2_with fail
    refine (dPickIntNew (rdI r) _ A cap code _ (by simp [rdI]) (by simp [rdI]) hd3.1).mono ?_
    rintro e w4 ⟨⟨z, hz, rfl⟩, hd4⟩
    have hzr := rdI_range r ⟨by omega, by omega⟩ z hz
    have hsz := itoa_size z hzr
    have HP := Lib.hid (fun W => specDecText z W hzr)
    generalize str (Lib.itoa z) = q at *
    clear hz
    go_wp2_with fail
    refine (HP.out _).mono ?_
    rintro e w5 ⟨rfl, hw5⟩
    subst hw5
    go_wp2_with fail
    go_ret
    exact ⟨⟨q, hsz, rfl⟩, ((hd2.trans hd3).trans hd4).toBelow hb1 (Nat.le_refl _)⟩
def wdL : List ByteArray := [⟨#[97]⟩, ⟨#[32]⟩, ⟨#[98, 99]⟩, ⟨#[32]⟩, ⟨#[]⟩]
theorem wd_size : ∀ s ∈ wdL, s.size ≤ 2 := by decide
set_option maxHeartbeats 2000000 in
theorem drawWords (A : Option Addr) (cap : Nat) (code : List UInt8) (w : World) (hat : At1 w w.heap.size A (code.map bv)) (hn : code.length ≤ 1000000000) :
    Calls Tryz.prog 21 #[.slice A code.length cap] w fun e w' => Drew 20 w e w' := by
  have HN := Lib.hid (dNew A cap code w hat hn)
  clear hat
  go_enter Tryz.func21, Tryz.ntmps21
  go_wp2_with fail
  refine HN.out.mono ?_
  rintro e w1 ⟨rfl, hc1, hb1⟩
  go_wp2_with fail
  refine (dBelow 6 _ A cap code w1 (by omega) (by omega) hc1).mono ?_
  rintro e w2 ⟨⟨n, hnn, rfl⟩, hd2⟩
  have HD2 := Lib.hid hd2
  clear hd2
  go_wp2_with fail
  go_loopw [4, 6] (fun o i wr => ∃ (j : Nat) (t : ByteArray), j ≤ n ∧ i = .int .i64 j ∧ o = .string t ∧ t.size ≤ 2 * j ∧ Hid (Drawn w1 w.heap.size A cap code wr)) (fun _ i _ => n - (intOf i).toNat)
  case atStart => exact ⟨0, ⟨#[]⟩, Nat.zero_le _, rfl, rfl, Nat.zero_le _, HD2⟩
  case round =>
    obtain ⟨j, t, hj, rfl, rfl, ht, HD⟩ := hrel
    by_cases hlt : j < n
    · go_wp2_with fail
      refine (dPickNew wdL _ A cap code _ (by decide) (by decide) HD.out.1).mono ?_
      rintro e w3 ⟨⟨p, hp, rfl⟩, hd3⟩
      have hps := wd_size p hp
      have HD3 := Lib.hid (HD.out.trans hd3)
      clear hp hd3
      go_wp2_with fail
      go_roundw
      case rel => exact ⟨j + 1, t ++ p, hlt, by go_num, rfl, by simp; omega, HD3⟩
      case measure => simp [intOf]; omega
    · obtain rfl : j = n := by omega
      go_wp2_with fail
      go_ret
      exact ⟨⟨t, by omega, rfl⟩, HD.out.toBelow hb1 (Nat.le_refl _)⟩
end Go.Proofs.YtbfddabljkoapaaGreatDoor

/-
  What the drawn laws call: bytes that came in; whether they are many.
-/
namespace Go.Proofs.YtbfddabljkoapaaGreatDoor
open Go.RowKit
set_option linter.unusedVariables false
set_option linter.unusedSimpArgs false
set_option maxRecDepth 100000

theorem bytes_of : ∀ (l : List Int), (∀ z ∈ l, (Lit.int .u8 z).wf = true) → ∃ code : List UInt8, code.length = l.length ∧ l.map (Value.int .u8) = code.map bv
  | [], _ => ⟨[], rfl, rfl⟩
  | z :: l, h => by
    obtain ⟨code, h1, h2⟩ := bytes_of l (fun x hx => h x (List.mem_cons_of_mem _ hx))
    have hz := h z List.mem_cons_self
    have hr : 0 ≤ z ∧ z ≤ 255 := by simpa [Lit.wf, IntKind.min, IntKind.max, IntKind.signed, IntKind.bits] using hz
    refine ⟨UInt8.ofNat z.toNat :: code, by simp [h1], ?_⟩
    rw [List.map_cons, List.map_cons, h2]
    congr 1
    unfold bv
    congr 1
    rw [UInt8.toNat_ofNat']
    omega
theorem lawBig (A : Option Addr) (n c : Nat) (w : World) (h : n ≤ 1048576) : Calls Tryz.prog 6 #[.slice A n c] w fun e w' => e = .returned (.bool false) ∧ w' = w := by
  have h2 : ¬ (1048576 : Int) < (n : Int) := by omega
  go_enter Tryz.func6, Tryz.ntmps6
  go_wp2_with fail
  go_ret
  exact ⟨rfl, rfl⟩
theorem lawBigY (A : Option Addr) (n c : Nat) (w : World) (h : 1048576 < n) : Calls Tryz.prog 6 #[.slice A n c] w fun e w' => e = .returned (.bool true) ∧ w' = w := by
  have h2 : (1048576 : Int) < (n : Int) := by omega
  go_enter Tryz.func6, Tryz.ntmps6
  go_wp2_with fail
  go_ret
  exact ⟨rfl, rfl⟩
theorem row_of {w : World} {base : Nat} {e : TypeId} {o : Value} {n : Nat} {xs : List Value} (h : w.ownsRow base e 1 o n xs) : ∃ A c, o = .slice A n c := by
  rcases h.2 with ⟨rfl, rfl⟩ | ⟨g, c, cur, rfl, _⟩
  · exact ⟨none, 0, rfl⟩
  · exact ⟨_, _, rfl⟩
end Go.Proofs.YtbfddabljkoapaaGreatDoor

/-
  A text as a cell; rows of texts.
-/
namespace Go.Proofs.YtbfddabljkoapaaGreatDoor
open Go.RowKit
set_option linter.unusedVariables false

/-- A text as a cell. -/
def tv (s : ByteArray) : Value := .string s
theorem row_form {w : World} {base : Nat} {e : TypeId} {o : Value} {n : Nat} {xs : List Value} (h : w.ownsRow base e 1 o n xs) : ∃ A c, o = .slice A n c ∧ (0 < n → ∃ g, A = some ⟨g, 0, none⟩) := by
  rcases h.2 with ⟨rfl, rfl⟩ | ⟨g, c, cur, rfl, _⟩
  · exact ⟨none, 0, rfl, fun h => absurd h (by omega)⟩
  · exact ⟨_, _, rfl, fun _ => ⟨g, rfl⟩⟩
theorem row_cell {w : World} {base g c : Nat} {e : TypeId} {l : List ByteArray} (h : w.ownsRow base e 1 (.slice (some ⟨g, 0, none⟩) l.length c) l.length (l.map tv)) (j : Nat) (hj : j < l.length) : w.cell? ⟨g, j, none⟩ = some (.string l[j]) := by
  rw [h.cellAt j (by omega)]
  simp [hj, tv]
end Go.Proofs.YtbfddabljkoapaaGreatDoor

/-
  Rows of texts that are the same.
-/
namespace Go.Proofs.YtbfddabljkoapaaGreatDoor
open Go.RowKit
set_option linter.unusedVariables false
set_option linter.unusedSimpArgs false
set_option maxRecDepth 100000

set_option maxHeartbeats 1000000 in
theorem lawSameTexts (l : List ByteArray) (A B : Option Addr) (c d : Nat) (w : World) (hn : l.length ≤ 10000000) (ho : At1 w w.heap.size A (l.map tv)) (hp : At1 w w.heap.size B (l.map tv)) :
    Calls Tryz.prog 26 #[.slice A l.length c, .slice B l.length d] w fun e w' => e = .returned (.bool true) ∧ Below w.heap.size w w' := by
  have HO := Lib.hid ho
  have HP := Lib.hid hp
  clear ho hp
  go_enter Tryz.func26, Tryz.ntmps26
  go_wp2_with fail
  go_loopw [5] (fun i wr => ∃ j : Nat, j ≤ l.length ∧ i = .int .i64 j ∧ Below w.heap.size w wr) (fun i _ => l.length - (intOf i).toNat)
  case atStart => exact ⟨0, Nat.zero_le _, rfl, Below.refl _ _⟩
  case round =>
    obtain ⟨j, hj, rfl, hb⟩ := hrel
    by_cases hlt : j < l.length
    · obtain ⟨g, off, rfl, _, c0⟩ := (HO.out.below hb (Nat.le_refl _)).get (j := j) (by simpa using hlt)
      obtain ⟨g', off', rfl, _, d0⟩ := (HP.out.below hb (Nat.le_refl _)).get (j := j) (by simpa using hlt)
      rw [List.getElem_map] at c0 d0
      unfold tv at c0 d0
      go_wp2_with fail
      go_quiet (fail)
      go_wp2_with fail
      go_roundw
      case rel => exact ⟨j + 1, by omega, by go_num, below_drewN hb _⟩
      case measure => simp [intOf]; omega
    · obtain rfl : j = l.length := by omega
      go_wp2_with fail
      go_ret
      exact ⟨rfl, hb⟩
end Go.Proofs.YtbfddabljkoapaaGreatDoor

/-
  PutHex of the program returns the two digits of each byte, for a text of at most 1048576 bytes.
-/
namespace Go.Proofs.YtbfddabljkoapaaGreatDoor
open Go.ChangeShapes Go.WideShapes Go.ChangeAt Go.RowKit
set_option linter.unusedVariables false
set_option maxRecDepth 100000

set_option maxHeartbeats 1000000 in
theorem implPutHex (s : ByteArray) (w : World) (hs : s.size ≤ 1048576) :
    Calls Tryz.prog 13 #[.string s] w fun e w' => e = .returned (.string (str (hexOf s.data.toList))) ∧ Below w.heap.size w w' := by
  obtain ⟨i0, hi, hz0, hz1, hz2⟩ := info_parts infoU8
  go_enter Tryz.func13, Tryz.ntmps13
  go_wp2_with (at_make; refine wpList_make_own _ rfl _ _ 22 rfl w.heap.size 5 i0 (.int .u8 0) 1 Tryz.underlying22 hi hz0 hz1 _ _ _ (2 * s.size) rfl rfl (by omega) ?b1 ?b2 ?b3 ?_)
  case b1 => rw [hz2]; omega
  case b2 => unfold maxLen; omega
  case b3 => omega
  intro w1 hown1 hg1
  go_wp2
  go_loopw [3, 11] (fun v i wr => ∃ k : Nat, k ≤ s.size ∧ i = .int .i64 k ∧ wr.ownsRow w.heap.size 5 1 v (2 * k) ((hexOf (s.data.toList.take k)).map bv) ∧ Below w.heap.size w wr)
    (fun _ i _ => s.size - (intOf i).toNat)
  case atStart => exact ⟨0, Nat.zero_le _, rfl, hown1, (Below.refl _ _).grown hg1 (Nat.le_refl _) (fun k h => by cases h)⟩
  case round =>
    obtain ⟨k, hk, rfl, hown, hb⟩ := hrel
    by_cases hlt : k < s.size
    · have hu : s[k].toNat < 256 := UInt8.toNat_lt _
      have e15 := and15 s[k].toNat hu
      go_wp2
      go_region_held3 (fun _ => True) (exact trivial) (first | (refine step_app rfl (.tmp 14) (.tmp 25) 22 rfl w.heap.size 5 Tryz.underlying22 infoU8 rfl (by decide) rfl (hown.alloc _) (hb.alloc hb.size _).drew (Nat.le_trans hb.size (by simp)) _ 2 2 _ rfl rfl (cells_newD _ _ _) (ones_u8 _ _) (by unfold maxLen; omega) (by omega) ?_; intro v' w' hown' hb' hB'))
      all_goals
        rw [hex_cells, ← List.map_append, ← hexOf_snoc, ← take_snoc s k hlt] at hown'
        go_wp2
        go_roundw
        case rel => exact ⟨k + 1, by omega, by go_num, hown', hb'⟩
        case measure => simp [intOf]; omega
    · obtain rfl : k = s.size := by omega
      have hcv := run_string_own (P := Tryz.prog) 22 9 5 Tryz.underlying22 Tryz.underlying5 Tryz.underlying9 hown
      clear hown
      go_wp2
      go_ret
      exact ⟨ret_eq (congrArg (fun l => Value.string (str (hexOf l))) (List.take_of_length_le (by simp))), hb⟩

end Go.Proofs.YtbfddabljkoapaaGreatDoor

/-
  DecText of the program; what the library's numbers ask of the world.
-/
namespace Go.Proofs.YtbfddabljkoapaaGreatDoor
open Go.RowKit
set_option linter.unusedVariables false

theorem gPow : Tryz.prog.globalNamed "internal/strconv.uint64pow10" = some 5 := by kernel_rfl
/-- The table of the powers of ten lies as it was laid. -/
def Pow10 (w : World) : Prop := Lib.TabIs Tryz.prog w "internal/strconv.uint64pow10" .u64 Lib.pow10Tab
theorem Pow10.below {w w' : World} {B : Nat} (h : Pow10 w) (hb : Below B w w') (hB : w.heap.size ≤ B) : Pow10 w' := Go.Joins.tab_stays gPow h hb hB
theorem powD : (Rows.laid_internal_strconv_uint64pow10 : DataW Unit) = Lib.tabData .u64 Lib.pow10Tab := by kernel_rfl
theorem gPowT : (Tryz.prog.globals[5]?).map (·.type) = some 181 := by kernel_rfl
theorem pow_of_laid {l : List (String × DataW Unit)} {W : World} (h : laidMet Tryz.prog l W) (hm : ("internal/strconv.uint64pow10", Rows.laid_internal_strconv_uint64pow10) ∈ l) : Pow10 W := by
  obtain ⟨g', t', cs, fuel, p, hg', ht', hvar, hd⟩ := Lib.laidMet.reads h hm
  obtain rfl := Option.some.inj (gPow.symm.trans hg')
  obtain rfl := Option.some.inj (gPowT.symm.trans ht')
  rw [powD] at hd
  have hc := Lib.cells_of_tab Tryz.underlying181 Tryz.underlying135 (by kernel_rfl) (by kernel_rfl) hd
  show World.var? _ _ _ = _
  rw [hvar, ← hc]

theorem implDecText (n : Int) (w : World) (h : -9223372036854775808 ≤ n ∧ n ≤ 9223372036854775807) (hP : Pow10 w) :
    Calls Tryz.prog 24 #[.int .i64 n] w fun e w' => e = .returned (.string (str (Lib.itoa n))) ∧ Below w.heap.size w w' := by
  have HP := Lib.hid hP
  clear hP
  go_enter Tryz.func24, Tryz.ntmps24
  go_wp2_with fail
  refine (Tryz.strconv_Itoa n h.1 h.2 w HP.out).mono ?_
  rintro e w1 ⟨rfl, k, os, rfl⟩
  go_wp2_with fail
  go_ret
  exact ⟨rfl, Lib.below_grow _ _ (Nat.le_refl _) _ _⟩
end Go.Proofs.YtbfddabljkoapaaGreatDoor

/-
  ReadDec of the reference.
-/
namespace Go.Proofs.YtbfddabljkoapaaGreatDoor
open Go.RowKit
set_option linter.unusedVariables false

theorem i64r (n : Int) : -9223372036854775808 ≤ wrap64 n ∧ wrap64 n ≤ 9223372036854775807 := by rw [wrap64_eq]; omega
/-- A text that no number of 64 bits is written as. -/
def NoDec (s : ByteArray) : Prop := ∀ v : Int, -9223372036854775808 ≤ v ∧ v ≤ 9223372036854775807 → str (Lib.itoa v) ≠ s
theorem ba_list (x y : ByteArray) : (x.toList == y.toList) = decide (x = y) := by
  rw [Bool.eq_iff_iff, decide_eq_true_iff, beq_iff_eq, ByteArray.toList_eq, ByteArray.toList_eq]
  constructor
  · intro h
    apply ByteArray.ext
    exact Array.toList_inj.1 h
  · intro h; rw [h]
theorem ne_of_size {x y : ByteArray} (h : x.size ≠ y.size) : (x.toList == y.toList) = false := by
  rw [ba_list]; exact decide_eq_false (fun e => h (by rw [e]))
theorem wz (D b : Nat) (hb : 48 ≤ b) : wrap64 (wrap64 (10 * (D : Int) + b) - 48) = wrap64 ((10 * D + (b - 48) : Nat) : Int) := by
  rw [show ((10 * D + (b - 48) : Nat) : Int) = 10 * (D : Int) + b - 48 by omega]
  generalize 10 * (D : Int) + b = x
  simp only [wrap64_eq]
  omega
theorem tup2b {a a' : Int} {b b' : Bool} (h1 : a = a') (h2 : b = b') : Ending.returned (.tuple #[.int .i64 a, .bool b]) = Ending.returned (.tuple #[.int .i64 a', .bool b']) := by rw [h1, h2]
theorem str_at (l : List UInt8) (j : Nat) (h : j < (str l).size) : (str l)[j] = l[j]'(by rw [strlen] at h; exact h) := rfl
theorem dval_take (l : List UInt8) (j : Nat) (h : j < (str l).size) : dval (l.take (j + 1)) = 10 * dval (l.take j) + ((str l)[j].toNat - 48) := by
  have hl : j < l.length := by rw [strlen] at h; exact h
  rw [List.take_succ_eq_append_getElem hl, dval_snoc, str_at]
theorem dval_mono (l : List UInt8) (j : Nat) (h : j < (str l).size) : 10 * dval (l.take j) ≤ dval l := by
  have hl : j < l.length := by rw [strlen] at h; exact h
  have hm : ∀ (r : List UInt8) (a : Nat), a ≤ r.foldl (fun n b => 10 * n + (b.toNat - 48)) a := by
    intro r
    induction r with
    | nil => intro a; exact Nat.le_refl _
    | cons x r ih2 => intro a; rw [List.foldl_cons]; exact Nat.le_trans (by omega) (ih2 _)
  have e : l = l.take j ++ (l[j] :: l.drop (j + 1)) := by rw [← List.drop_eq_getElem_cons hl, List.take_append_drop]
  conv => rhs; rw [e]
  unfold dval
  rw [List.foldl_append, List.foldl_cons]
  exact Nat.le_trans (by omega) (hm _ _)

set_option maxHeartbeats 2000000 in
theorem specReadDec_noE (s : ByteArray) (w : World) (hs : s.size ≤ 1048576) (hno : NoDec s) (h0 : s.size = 0) :
    Calls Tryz.prog 20 #[.string s] w fun e w' => e = .returned (.tuple #[.int .i64 0, .bool false]) ∧ w = w' := by
  have HN := Lib.hid hno
  clear hno
  go_enter Tryz.func20, Tryz.ntmps20
  go_wp2_with fail
  go_loop [5, 6] (fun n k => ∃ (j : Nat) (z : Int), j ≤ s.size ∧ k = .int .i64 j ∧ n = .int .i64 z ∧ -9223372036854775808 ≤ z ∧ z ≤ 9223372036854775807) (fun _ k => s.size - (intOf k).toNat)
  case atStart => exact ⟨0, 0, by omega, rfl, rfl, by omega, by omega⟩
  case round =>
    obtain ⟨j, z, hj, rfl, rfl, hz1, hz2⟩ := hrel
    by_cases hlt : j < s.size
    · exact absurd hlt (by omega)
    · obtain rfl : j = s.size := by omega
      have hrng : -9223372036854775808 ≤ z ∧ z ≤ 9223372036854775807 := ⟨hz1, hz2⟩
      have ht : ((str (Lib.itoa z)).toList == s.toList) = false := by rw [ba_list]; exact decide_eq_false (HN.out _ hrng)
      go_wp2_with fail
      all_goals first
        | (go_ret2; exact ⟨rfl, rfl⟩)
        | (refine (specDecText _ _ hrng).mono ?_
           rintro e w1 ⟨rfl, rfl⟩
           go_wp2_with fail
           go_ret2
           exact ⟨rfl, rfl⟩)

set_option maxHeartbeats 2000000 in
theorem specReadDec_noP (s : ByteArray) (w : World) (hs : s.size ≤ 1048576) (hno : NoDec s) (h0 : 0 < s.size) (h45 : ¬ s[0].toNat = 45) :
    Calls Tryz.prog 20 #[.string s] w fun e w' => e = .returned (.tuple #[.int .i64 0, .bool false]) ∧ w = w' := by
  have HN := Lib.hid hno
  clear hno
  have h45b : ((s[0].toNat : Int) == 45) = false := by rw [beq_eq_false_iff_ne]; omega
  go_enter Tryz.func20, Tryz.ntmps20
  go_wp2_with fail
  go_loop [5, 6] (fun n k => ∃ (j : Nat) (z : Int), j ≤ s.size ∧ k = .int .i64 j ∧ n = .int .i64 z ∧ -9223372036854775808 ≤ z ∧ z ≤ 9223372036854775807) (fun _ k => s.size - (intOf k).toNat)
  case atStart => exact ⟨0, 0, by omega, rfl, rfl, by omega, by omega⟩
  case round =>
    obtain ⟨j, z, hj, rfl, rfl, hz1, hz2⟩ := hrel
    by_cases hlt : j < s.size
    · have hu : s[j].toNat < 256 := UInt8.toNat_lt _
      by_cases hd : 48 ≤ s[j].toNat ∧ s[j].toNat ≤ 57
      · have hd1 : decide ((48 : Int) ≤ s[j].toNat) = true := decide_eq_true (by omega)
        have hd2 : decide ((s[j].toNat : Int) ≤ 57) = true := decide_eq_true (by omega)
        by_cases hl : s.size ≤ 19
        · go_wp2_with (go_at_call 67; go_in)
          go_round
          case rel => exact ⟨j + 1, _, by omega, by go_num, rfl, (i64r _).1, (i64r _).2⟩
          case measure => simp [intOf]; omega
        · go_wp2_with (go_at_call 67; go_in)
          go_ret2
          exact ⟨rfl, rfl⟩
      · rcases (show decide ((48 : Int) ≤ s[j].toNat) = false ∨ (decide ((48 : Int) ≤ s[j].toNat) = true ∧ decide ((s[j].toNat : Int) ≤ 57) = false) by simp; omega) with hc | hc
        all_goals
          clear hd
          go_wp2_with (go_at_call 67; go_in)
          go_ret2
          exact ⟨rfl, rfl⟩
    · obtain rfl : j = s.size := by omega
      have hrng : -9223372036854775808 ≤ z ∧ z ≤ 9223372036854775807 := ⟨hz1, hz2⟩
      have ht : ((str (Lib.itoa z)).toList == s.toList) = false := by rw [ba_list]; exact decide_eq_false (HN.out _ hrng)
      go_wp2_with fail
      all_goals first
        | (go_ret2; exact ⟨rfl, rfl⟩)
        | (refine (specDecText _ _ hrng).mono ?_
           rintro e w1 ⟨rfl, rfl⟩
           go_wp2_with fail
           go_ret2
           exact ⟨rfl, rfl⟩)

set_option maxHeartbeats 2000000 in
theorem specReadDec_noM (s : ByteArray) (w : World) (hs : s.size ≤ 1048576) (hno : NoDec s) (h0 : 0 < s.size) (h45 : s[0].toNat = 45) :
    Calls Tryz.prog 20 #[.string s] w fun e w' => e = .returned (.tuple #[.int .i64 0, .bool false]) ∧ w = w' := by
  have HN := Lib.hid hno
  clear hno
  have h45b : ((s[0].toNat : Int) == 45) = true := by rw [beq_iff_eq]; omega
  have htz : (s.extract 1 s.size).size = s.size - 1 := by rw [ByteArray.size_extract]; omega
  go_enter Tryz.func20, Tryz.ntmps20
  go_wp2_with fail
  generalize hT : s.extract 1 s.size = t at *
  have hts : (t.toList == s.toList) = false := ne_of_size (by omega)
  go_loop [5, 6] (fun n k => ∃ (j : Nat) (z : Int), j ≤ t.size ∧ k = .int .i64 j ∧ n = .int .i64 z ∧ -9223372036854775808 ≤ z ∧ z ≤ 9223372036854775807) (fun _ k => t.size - (intOf k).toNat)
  case atStart => exact ⟨0, 0, by omega, rfl, rfl, by omega, by omega⟩
  case round =>
    obtain ⟨j, z, hj, rfl, rfl, hz1, hz2⟩ := hrel
    by_cases hlt : j < t.size
    · have hu : t[j].toNat < 256 := UInt8.toNat_lt _
      by_cases hd : 48 ≤ t[j].toNat ∧ t[j].toNat ≤ 57
      · have hd1 : decide ((48 : Int) ≤ t[j].toNat) = true := decide_eq_true (by omega)
        have hd2 : decide ((t[j].toNat : Int) ≤ 57) = true := decide_eq_true (by omega)
        by_cases hl : t.size ≤ 19
        · go_wp2_with (go_at_call 67; go_in)
          go_round
          case rel => exact ⟨j + 1, _, by omega, by go_num, rfl, (i64r _).1, (i64r _).2⟩
          case measure => simp [intOf]; omega
        · go_wp2_with (go_at_call 67; go_in)
          go_ret2
          exact ⟨rfl, rfl⟩
      · rcases (show decide ((48 : Int) ≤ t[j].toNat) = false ∨ (decide ((48 : Int) ≤ t[j].toNat) = true ∧ decide ((t[j].toNat : Int) ≤ 57) = false) by simp; omega) with hc | hc
        all_goals
          clear hd
          go_wp2_with (go_at_call 67; go_in)
          go_ret2
          exact ⟨rfl, rfl⟩
    · obtain rfl : j = t.size := by omega
      have hrng : -9223372036854775808 ≤ (wrap64 (-z)) ∧ (wrap64 (-z)) ≤ 9223372036854775807 := i64r _
      have ht : ((str (Lib.itoa (wrap64 (-z)))).toList == s.toList) = false := by rw [ba_list]; exact decide_eq_false (HN.out _ hrng)
      go_wp2_with fail
      all_goals first
        | (go_ret2; exact ⟨rfl, rfl⟩)
        | (refine (specDecText _ _ hrng).mono ?_
           rintro e w1 ⟨rfl, rfl⟩
           go_wp2_with fail
           go_ret2
           exact ⟨rfl, rfl⟩)

set_option maxHeartbeats 2000000 in
theorem specReadDec_yesP (u : Nat) (w : World) (hu : u < 9223372036854775808) :
    Calls Tryz.prog 20 #[.string (str (Lib.itoa (u : Int)))] w fun e w' => e = .returned (.tuple #[.int .i64 (u : Int), .bool true]) ∧ w = w' := by
  have HV := Lib.hid (dval_dec u)
  have hlen := dec_len u (by omega)
  have hne := dec_ne u
  have HD := Lib.hid (dec_digit u)
  have HI : Hid (Lib.itoa (u : Int) = Lib.decDigits u) := Lib.hid (itoa_pos u)
  have HT : Hid (((str (Lib.itoa (u : Int))).toList == (str (Lib.itoa (u : Int))).toList) = true) := Lib.hid (by simp)
  rw [HI.out] at HT ⊢
  generalize Lib.decDigits u = l at *
  have hpos : 0 < l.length := List.length_pos_iff.2 hne
  clear hne
  have hs : (str l).size = l.length := strlen l
  have h45 : ¬ ((str l)[0]'(by omega)).toNat = 45 := by
    rw [str_at]
    have := HD.out l[0] (List.getElem_mem _)
    omega
  have h45b : ((((str l)[0]'(by omega)).toNat : Int) == 45) = false := by rw [beq_eq_false_iff_ne]; omega
  have hts : ((str l).toList == (str l).toList) = true := by simp
  have hte : ((str l).toList == (⟨#[]⟩ : ByteArray).toList) = false := ne_of_size (by rw [hs]; show _ ≠ 0; omega)
  have hte2 : ((str l).toList = []) = False := by rw [ByteArray.toList_eq]; simp [str]; intro h; rw [h] at hpos; simp at hpos
  have hte3 : (str l).toList.isEmpty = false := by rw [List.isEmpty_eq_false_iff]; intro h; exact hte2.mp h
  have HB : Hid (∀ (j : Nat) (h : j < (str l).size), 48 ≤ (str l)[j].toNat ∧ (str l)[j].toNat ≤ 57) := Lib.hid (fun j h => by rw [str_at]; exact HD.out _ (List.getElem_mem _))
  have HK : Hid (∀ (j : Nat) (h : j < (str l).size), dval (l.take (j + 1)) = 10 * dval (l.take j) + ((str l)[j].toNat - 48)) := Lib.hid (dval_take l)
  have HM : Hid (∀ (j : Nat) (h : j < (str l).size), 10 * dval (l.take j) ≤ u) := Lib.hid (fun j h => by rw [← HV.out]; exact dval_mono l j h)
  have HZ : Hid (dval (l.take (str l).size) = u) := Lib.hid (by rw [strlen, List.take_length]; exact HV.out)
  go_enter Tryz.func20, Tryz.ntmps20
  go_wp2_with fail
  go_loop [5, 6] (fun n k => ∃ (j : Nat), j ≤ (str l).size ∧ k = .int .i64 j ∧ n = .int .i64 (wrap64 (dval (l.take j) : Nat))) (fun _ k => (str l).size - (intOf k).toNat)
  case atStart => exact ⟨0, by omega, rfl, by show Value.int .i64 0 = .int .i64 (wrap64 0); rw [wrap64_eq]; rfl⟩
  case round =>
    obtain ⟨j, hj, rfl, rfl⟩ := hrel
    by_cases hlt : j < (str l).size
    · have hu2 : (str l)[j].toNat < 256 := UInt8.toNat_lt _
      have hd := HB.out j hlt
      have hd1 : decide ((48 : Int) ≤ (str l)[j].toNat) = true := decide_eq_true (by omega)
      have hd2 : decide (((str l)[j].toNat : Int) ≤ 57) = true := decide_eq_true (by omega)
      have hM := HM.out j hlt
      have HKj := Lib.hid (HK.out j hlt)
      generalize dval (l.take j) = D at *
      rw [show wrap64 (D : Int) = D by rw [wrap64_eq]; omega]
      go_wp2_with (go_at_call 67; go_in)
      go_round
      case rel => exact ⟨j + 1, by omega, by go_num, by rw [HKj.out]; exact congrArg (Value.int .i64) (wz D _ hd.1)⟩
      case measure => simp [intOf]; omega
    · obtain rfl : j = (str l).size := by omega
      rw [HZ.out]
      have hwz : wrap64 (u : Int) = (u : Int) := by simp only [wrap64_eq]; omega
      rw [hwz]
      have hx : ((str (Lib.itoa (u : Int))).toList == (str (l)).toList) = true := by rw [HI.out]; exact HT.out
      go_wp2_with fail
      refine (specDecText _ _ (by omega)).mono ?_
      rintro e w1 ⟨rfl, rfl⟩
      go_wp2_with fail
      all_goals go_ret2
      all_goals first
        | exact ⟨rfl, rfl⟩
        | (have hq : (!(str (Lib.itoa (u : Int))).toList == (str (l)).toList) = true := by assumption
           rw [hx] at hq; cases hq)

set_option maxHeartbeats 2000000 in
theorem specReadDec_yesM (u : Nat) (w : World) (h0 : 0 < u) (hu : u ≤ 9223372036854775808) :
    Calls Tryz.prog 20 #[.string (str (Lib.itoa (-(u : Int))))] w fun e w' => e = .returned (.tuple #[.int .i64 (-(u : Int)), .bool true]) ∧ w = w' := by
  have HV := Lib.hid (dval_dec u)
  have hlen := dec_len u (by omega)
  have hne := dec_ne u
  have HD := Lib.hid (dec_digit u)
  have HI : Hid (Lib.itoa (-(u : Int)) = 45 :: Lib.decDigits u) := Lib.hid (itoa_neg u h0)
  have HT : Hid (((str (Lib.itoa (-(u : Int)))).toList == (str (Lib.itoa (-(u : Int)))).toList) = true) := Lib.hid (by simp)
  rw [HI.out] at HT ⊢
  generalize Lib.decDigits u = l at *
  have hpos : 0 < l.length := List.length_pos_iff.2 hne
  clear hne
  have HE : Hid ((str (45 :: l)).extract 1 (l.length + 1) = str l) := Lib.hid (by
    apply ByteArray.ext
    simp [str])
  have hs : (str (45 :: l)).size = l.length + 1 := by rw [strlen]; rfl
  have h45 : ((str (45 :: l))[0]'(by omega)).toNat = 45 := by rw [str_at]; rfl
  have h45b : ((((str (45 :: l))[0]'(by omega)).toNat : Int) == 45) = true := by rw [beq_iff_eq]; omega
  have hs2 : (str l).size = l.length := strlen l
  have hts : ((str l).toList == (str (45 :: l)).toList) = false := ne_of_size (by omega)
  have hte : ((str l).toList == (⟨#[]⟩ : ByteArray).toList) = false := ne_of_size (by rw [hs2]; show _ ≠ 0; omega)
  have hte2 : ((str l).toList = []) = False := by rw [ByteArray.toList_eq]; simp [str]; intro h; rw [h] at hpos; simp at hpos
  have hte3 : (str l).toList.isEmpty = false := by rw [List.isEmpty_eq_false_iff]; intro h; exact hte2.mp h
  have HB : Hid (∀ (j : Nat) (h : j < (str l).size), 48 ≤ (str l)[j].toNat ∧ (str l)[j].toNat ≤ 57) := Lib.hid (fun j h => by rw [str_at]; exact HD.out _ (List.getElem_mem _))
  have HK : Hid (∀ (j : Nat) (h : j < (str l).size), dval (l.take (j + 1)) = 10 * dval (l.take j) + ((str l)[j].toNat - 48)) := Lib.hid (dval_take l)
  have HM : Hid (∀ (j : Nat) (h : j < (str l).size), 10 * dval (l.take j) ≤ u) := Lib.hid (fun j h => by rw [← HV.out]; exact dval_mono l j h)
  have HZ : Hid (dval (l.take (str l).size) = u) := Lib.hid (by rw [strlen, List.take_length]; exact HV.out)
  go_enter Tryz.func20, Tryz.ntmps20
  go_wp2_with fail
  rw [HE.out]
  go_loop [5, 6] (fun n k => ∃ (j : Nat), j ≤ (str l).size ∧ k = .int .i64 j ∧ n = .int .i64 (wrap64 (dval (l.take j) : Nat))) (fun _ k => (str l).size - (intOf k).toNat)
  case atStart => exact ⟨0, by omega, rfl, by show Value.int .i64 0 = .int .i64 (wrap64 0); rw [wrap64_eq]; rfl⟩
  case round =>
    obtain ⟨j, hj, rfl, rfl⟩ := hrel
    by_cases hlt : j < (str l).size
    · have hu2 : (str l)[j].toNat < 256 := UInt8.toNat_lt _
      have hd := HB.out j hlt
      have hd1 : decide ((48 : Int) ≤ (str l)[j].toNat) = true := decide_eq_true (by omega)
      have hd2 : decide (((str l)[j].toNat : Int) ≤ 57) = true := decide_eq_true (by omega)
      have hM := HM.out j hlt
      have HKj := Lib.hid (HK.out j hlt)
      generalize dval (l.take j) = D at *
      rw [show wrap64 (D : Int) = D by rw [wrap64_eq]; omega]
      go_wp2_with (go_at_call 67; go_in)
      go_round
      case rel => exact ⟨j + 1, by omega, by go_num, by rw [HKj.out]; exact congrArg (Value.int .i64) (wz D _ hd.1)⟩
      case measure => simp [intOf]; omega
    · obtain rfl : j = (str l).size := by omega
      rw [HZ.out]
      have hwz : wrap64 (-(wrap64 (u : Int))) = -(u : Int) := by simp only [wrap64_eq]; omega
      have hx : ((str (Lib.itoa (-(u : Int)))).toList == (str (45 :: l)).toList) = true := by rw [HI.out]; exact HT.out
      go_wp2_with fail
      refine (specDecText _ _ (by omega)).mono ?_
      rintro e w1 ⟨rfl, rfl⟩
      go_wp2_with fail
      all_goals go_ret2
      all_goals first
        | exact ⟨rfl, rfl⟩
        | (have hq : (!(str (Lib.itoa (-(u : Int)))).toList == (str (45 :: l)).toList) = true := by assumption
           rw [hx] at hq; cases hq)
end Go.Proofs.YtbfddabljkoapaaGreatDoor

/-
  ReadDec of the program, and both together.
-/
namespace Go.Proofs.YtbfddabljkoapaaGreatDoor
open Go.RowKit
set_option linter.unusedVariables false

theorem itoa_len (v : Int) (h : -9223372036854775808 ≤ v ∧ v ≤ 9223372036854775807) : (str (Lib.itoa v)).size ≤ 20 := by
  rw [strlen]
  unfold Lib.itoa
  split
  · have := dec_len v.natAbs (by omega)
    simp only [List.length_cons]; omega
  · have := dec_len v.toNat (by omega)
    omega
theorem specReadDec_yes (v : Int) (w : World) (h : -9223372036854775808 ≤ v ∧ v ≤ 9223372036854775807) :
    Calls Tryz.prog 20 #[.string (str (Lib.itoa v))] w fun e w' => e = .returned (.tuple #[.int .i64 v, .bool true]) ∧ w = w' := by
  by_cases h0 : v < 0
  · obtain ⟨u, rfl⟩ : ∃ u : Nat, v = -(u : Int) := ⟨v.natAbs, by omega⟩
    exact specReadDec_yesM u w (by omega) (by omega)
  · obtain ⟨u, rfl⟩ := Int.eq_ofNat_of_zero_le (show 0 ≤ v by omega)
    exact specReadDec_yesP u w (by omega)
theorem specReadDec_no (s : ByteArray) (w : World) (hs : s.size ≤ 1048576) (hno : NoDec s) :
    Calls Tryz.prog 20 #[.string s] w fun e w' => e = .returned (.tuple #[.int .i64 0, .bool false]) ∧ w = w' := by
  by_cases h0 : 0 < s.size
  · by_cases h45 : s[0].toNat = 45
    · exact specReadDec_noM s w hs hno h0 h45
    · exact specReadDec_noP s w hs hno h0 h45
  · exact specReadDec_noE s w hs hno (by omega)

/-- The library's two errors are there. -/
def Errs (w : World) : Prop := ∃ t p t' p', w.cell? ⟨3, 0, none⟩ = some (.iface t p) ∧ w.cell? ⟨4, 0, none⟩ = some (.iface t' p')
theorem Errs.below {w w' : World} {B : Nat} (h : Errs w) (hb : Below B w w') (hB : w.heap.size ≤ B) : Errs w' := by
  obtain ⟨t, p, t', p', h1, h2⟩ := h
  refine ⟨t, p, t', p', ?_, ?_⟩
  · rw [hb.cell (Nat.lt_of_lt_of_le (block_lt_of_cell h1) hB)]; exact h1
  · rw [hb.cell (Nat.lt_of_lt_of_le (block_lt_of_cell h2) hB)]; exact h2
theorem atoi_world {w w' : World} {e : TypeId} (h : w' = w ∨ ∃ t, w' = Lib.bytesWorld w e t) : Below w.heap.size w w' := by
  rcases h with rfl | ⟨t, rfl⟩
  · exact Below.refl _ _
  · exact Lib.bytesWorld_below _ _ _

set_option maxHeartbeats 1000000 in
theorem implReadDec_ok (s : ByteArray) (v : Int) (w : World) (hs : s.size ≤ 1048576) (h : -9223372036854775808 ≤ v ∧ v ≤ 9223372036854775807) (ha : Lib.atoiAll s.data.toList = .ok v) (b : Bool) (hb : ((str (Lib.itoa v)).toList == s.toList) = b) (hP : Pow10 w) :
    Calls Tryz.prog 19 #[.string s] w fun e w' => e = .returned (.tuple #[.int .i64 (if b then v else 0), .bool b]) ∧ Below w.heap.size w w' := by
  have HP := Lib.hid hP
  have HB := Lib.hid hb
  clear hP hb
  go_enter Tryz.func19, Tryz.ntmps19
  go_wp2_with fail
  refine (Tryz.strconv_Atoi_ok s (by omega) v ha w).mono ?_
  rintro e w1 ⟨rfl, hw1⟩
  have hb1 := atoi_world hw1
  clear hw1
  go_wp2_with fail
  refine (Tryz.strconv_Itoa v h.1 h.2 w1 (HP.out.below hb1 (Nat.le_refl _))).mono ?_
  rintro e w2 ⟨rfl, k, os, rfl⟩
  have hb2 := Lib.below_grow w1.heap.size w1 (Nat.le_refl _) k os
  have HB' : ((str (Lib.itoa v)).toList == s.toList) = b := HB.out
  rw [show (⟨(Lib.itoa v).toArray⟩ : ByteArray) = str (Lib.itoa v) from rfl]
  cases b with
  | true =>
    go_wp2_with fail
    all_goals go_ret2
    all_goals first
      | exact ⟨rfl, hb1.trans (hb2.mono hb1.size)⟩
      | (have hq : (!(str (Lib.itoa v)).toList == s.toList) = true := by assumption
         rw [HB'] at hq; cases hq)
  | false =>
    go_wp2_with fail
    all_goals go_ret2
    all_goals first
      | exact ⟨rfl, hb1.trans (hb2.mono hb1.size)⟩
      | (have hq : (!(str (Lib.itoa v)).toList == s.toList) = false := by assumption
         rw [HB'] at hq; cases hq)
theorem implReadDec_yes (v : Int) (w : World) (h : -9223372036854775808 ≤ v ∧ v ≤ 9223372036854775807) (hP : Pow10 w) :
    Calls Tryz.prog 19 #[.string (str (Lib.itoa v))] w fun e w' => e = .returned (.tuple #[.int .i64 v, .bool true]) ∧ Below w.heap.size w w' :=
  implReadDec_ok _ v w (Nat.le_trans (itoa_len v h) (by omega)) h (by have e : (str (Lib.itoa v)).data.toList = Lib.itoa v := by simp [str]
                                                                      rw [e]; exact atoi_itoa v h) true (by simp) hP

set_option maxHeartbeats 1000000 in
theorem implReadDec_no (s : ByteArray) (w : World) (hs : s.size ≤ 1048576) (hno : NoDec s) (hP : Pow10 w) (hE : Errs w) :
    Calls Tryz.prog 19 #[.string s] w fun e w' => e = .returned (.tuple #[.int .i64 0, .bool false]) ∧ Below w.heap.size w w' := by
  cases ha : Lib.atoiAll s.data.toList with
  | ok v =>
    have h := Lib.atoiAll_bounds ha
    exact implReadDec_ok s v w hs h ha false (by rw [ba_list]; exact decide_eq_false (hno v h)) hP
  | range =>
    obtain ⟨t, p, t', p', h1, h2⟩ := hE
    have H2 := Lib.hid h2
    clear h1 h2
    go_enter Tryz.func19, Tryz.ntmps19
    go_wp2_with fail
    refine (Tryz.strconv_Atoi_range s (by omega) ha _ w H2.out (.inr ⟨_, _, rfl⟩)).mono ?_
    rintro e w1 ⟨N, rfl, hN, hc, hb1⟩
    go_wp2_with fail
    go_ret2
    exact ⟨rfl, hb1⟩
  | _ =>
    obtain ⟨t, p, t', p', h1, h2⟩ := hE
    have H1 := Lib.hid h1
    clear h1 h2
    go_enter Tryz.func19, Tryz.ntmps19
    go_wp2_with fail
    refine (Tryz.strconv_Atoi_bad s (by omega) (fun v e => by rw [ha] at e; cases e) (fun e => by rw [ha] at e; cases e) _ w H1.out (.inr ⟨_, _, rfl⟩)).mono ?_
    rintro e w1 ⟨N, rfl, hN, hc, hb1⟩
    go_wp2_with fail
    go_ret2
    exact ⟨rfl, hb1⟩

theorem gES : Tryz.prog.globalNamed "strconv.ErrSyntax" = some 3 := by kernel_rfl
theorem gEST : (Tryz.prog.globals[3]?).map (·.type) = some 74 := by kernel_rfl
theorem gER : Tryz.prog.globalNamed "strconv.ErrRange" = some 4 := by kernel_rfl
theorem gERT : (Tryz.prog.globals[4]?).map (·.type) = some 74 := by kernel_rfl
theorem star : "*" ++ "errors.errorString" = "*errors.errorString" := by decide
theorem rowErr (u : TypeId) (h : Tryz.prog.typeName? 3 u = some "*errors.errorString") : u = 176 :=
  typeName_ptr_named (nm := "errors.errorString") (by rw [star]; kernel_rfl) (by kernel_rfl) (by decide) u (by rw [star]; exact h)
theorem errs_of_laid {l : List (String × DataW Unit)} {W : World} (h : laidMet Tryz.prog (("strconv.ErrRange", Rows.laid_strconv_ErrRange) :: ("strconv.ErrSyntax", Rows.laid_strconv_ErrSyntax) :: l) W) : Errs W := by
  obtain ⟨a0, s0, hv0, -, -, -⟩ := laid_sentinel h gER gERT Tryz.underlying74 rowErr Tryz.underlying176 Tryz.underlying178 rfl rfl Tryz.underlying9 (by kernel_rfl) (by kernel_rfl)
  obtain ⟨a1, s1, hv1, -, -, -⟩ := laid_sentinel h.tail gES gEST Tryz.underlying74 rowErr Tryz.underlying176 Tryz.underlying178 rfl rfl Tryz.underlying9 (by kernel_rfl) (by kernel_rfl)
  refine ⟨176, .pointer (some a1), 176, .pointer (some a0), ?_, ?_⟩
  · have := World.var?_cell gES hv1 0
    simpa using this
  · have := World.var?_cell gER hv0 0
    simpa using this
end Go.Proofs.YtbfddabljkoapaaGreatDoor

/-
  A text cut at a byte, plainly.
-/
namespace Go.Proofs.YtbfddabljkoapaaGreatDoor
open Go.RowKit
set_option linter.unusedVariables false

/-- What lies between the bytes c. -/
def pieces (c : UInt8) : List UInt8 → List (List UInt8)
  | [] => [[]]
  | b :: r => if b = c then [] :: pieces c r else match pieces c r with
    | [] => [[b]]
    | h :: t => (b :: h) :: t
theorem pieces_ne (c : UInt8) (l : List UInt8) : pieces c l ≠ [] := by
  cases l with
  | nil => simp [pieces]
  | cons b r =>
    unfold pieces
    split
    · simp
    · split <;> simp
theorem pieces_none {c : UInt8} : ∀ {l : List UInt8}, c ∉ l → pieces c l = [l]
  | [], _ => rfl
  | b :: r, h => by
    have hb : b ≠ c := fun e => h (by rw [e]; simp)
    have hr : c ∉ r := fun e => h (by simp [e])
    unfold pieces
    rw [if_neg hb, pieces_none hr]
theorem pieces_hit {c : UInt8} : ∀ {a : List UInt8} (b : List UInt8), c ∉ a → pieces c (a ++ c :: b) = a :: pieces c b
  | [], b, _ => by
    rw [List.nil_append]
    conv => lhs; unfold pieces
    rw [if_pos rfl]
  | x :: r, b, h => by
    have hb : x ≠ c := fun e => h (by rw [e]; simp)
    have hr : c ∉ r := fun e => h (by simp [e])
    rw [List.cons_append]
    conv => lhs; unfold pieces
    rw [if_neg hb, pieces_hit b hr]
theorem pieces_len (c : UInt8) : ∀ l : List UInt8, (pieces c l).length ≤ l.length + 1
  | [] => by simp [pieces]
  | b :: r => by
    have ih := pieces_len c r
    unfold pieces
    split
    · simp only [List.length_cons]; omega
    · split
      · simp
      · rename_i h t e
        rw [e] at ih
        simp only [List.length_cons] at *
        omega
theorem split_pieces (c : UInt8) : ∀ (N : Nat) (l : List UInt8), l.length ≤ N → Lib.splitK [c] 0 (Lib.count l [c]) l = pieces c l := by
  intro N
  induction N with
  | zero =>
    intro l h
    have : l = [] := List.eq_nil_of_length_eq_zero (by omega)
    subst this
    rfl
  | succ N ih =>
    intro l h
    have hge := Lib.index_ge l [c]
    by_cases hm : Lib.index l [c] = -1
    · rw [Lib.count_miss hm]
      rw [Lib.index_one] at hm
      have hn : c ∉ l := fun hc => by
        obtain ⟨k, hk, e⟩ := List.mem_iff_getElem.1 hc
        exact Lib.indexByte_none hm k (by rw [List.getElem?_eq_getElem hk, e])
      rw [pieces_none hn]
      rfl
    · obtain ⟨i, hi⟩ : ∃ i : Nat, Lib.index l [c] = i := ⟨(Lib.index l [c]).toNat, by omega⟩
      rw [Lib.count_hit (by simp) hi, Nat.add_comm]
      have hs := hi
      rw [Lib.index_one] at hs
      obtain ⟨h1, h2⟩ := Lib.indexByte_some hs
      have hil : i < l.length := by
        rcases Nat.lt_or_ge i l.length with hlt | hge2
        · exact hlt
        · rw [List.getElem?_eq_none hge2] at h1; cases h1
      have e1 : l = l.take i ++ c :: l.drop (i + 1) := by
        rw [List.getElem?_eq_getElem hil] at h1
        injection h1 with h1
        rw [← h1, ← List.drop_eq_getElem_cons hil, List.take_append_drop]
      have hn : c ∉ l.take i := fun hc => by
        obtain ⟨k, hk, e⟩ := List.mem_iff_getElem.1 hc
        rw [List.length_take] at hk
        rw [List.getElem_take] at e
        exact h2 k (by omega) (by rw [List.getElem?_eq_getElem (by omega), e])
      unfold Lib.splitK
      rw [if_neg (by rw [hi, beq_iff_eq]; omega), hi, Int.toNat_natCast, Nat.add_zero]
      simp only [List.length_cons, List.length_nil, Nat.zero_add]
      rw [ih (l.drop (i + 1)) (by rw [List.length_drop]; omega)]
      conv => rhs; rw [e1]
      rw [pieces_hit _ hn]
/-- The words of a text. -/
def cutAt (c : UInt8) (s : ByteArray) : List ByteArray := (pieces c s.data.toList).map str
theorem cutAt_len (c : UInt8) (s : ByteArray) : (cutAt c s).length ≤ s.size + 1 := by
  unfold cutAt
  rw [List.length_map]
  have := pieces_len c s.data.toList
  have e : s.data.toList.length = s.size := rfl
  omega
theorem split_cutAt (c : UInt8) (s sep : ByteArray) (h : sep.data.toList = [c]) : Lib.splitB sep 0 (Lib.countB s sep) s = cutAt c s := by
  have h1 := Lib.splitB_data sep 0 (Lib.countB s sep) s
  have hc : Lib.countB s sep = Lib.count s.data.toList [c] := congrArg (Lib.count s.data.toList) h
  rw [hc, h] at h1
  rw [split_pieces c _ _ (Nat.le_refl _)] at h1
  unfold cutAt
  rw [← h1, hc, List.map_map]
  conv => lhs; rw [← List.map_id (Lib.splitB sep 0 (Lib.count s.data.toList [c]) s)]
  apply List.map_congr_left
  intro x _
  simp [str]
end Go.Proofs.YtbfddabljkoapaaGreatDoor

/-
  Words of the reference and of the program: the pieces of a text between blanks, in a row of their own.
-/
namespace Go.Proofs.YtbfddabljkoapaaGreatDoor
open Go.RowKit
set_option linter.unusedVariables false
set_option linter.unusedSimpArgs false

theorem infoStrW : (Tryz.prog.info? 9).map (fun i => (i.zero, i.size, i.bytes)) = some (some (.string ⟨#[]⟩), 1, 16) := by kernel_rfl
theorem one_wv (s : ByteArray) : ∀ u ∈ #[Value.string s].toList, u.oneCell' = true := by
  intro u hu; simp at hu; subst hu; rfl
/-- What the loop has cut: acc; no blank stands from 'from' to i. -/
def WordRel (s : ByteArray) (w : World) (o fr i : Value) (wr : World) : Prop :=
  ∃ (f j : Nat) (acc : List ByteArray), f ≤ j ∧ j ≤ s.size ∧ fr = .int .i64 f ∧ i = .int .i64 j ∧ acc.length ≤ f ∧ (32 : UInt8) ∉ (s.data.toList.drop f).take (j - f) ∧ acc ++ (pieces 32 (s.data.toList.drop f)).map str = cutAt 32 s ∧
    wr.ownsRow w.heap.size 9 1 o acc.length (acc.map tv) ∧ Below w.heap.size w wr
theorem ext_piece (s : ByteArray) (f j : Nat) : s.extract f j = str ((s.data.toList.drop f).take (j - f)) := by
  apply ByteArray.ext
  apply Array.ext'
  rw [ByteArray.data_extract, Array.toList_extract]
  rfl
theorem word_more {s : ByteArray} {f j : Nat} (hf : f ≤ j) (hj : j < s.size) (h : (32 : UInt8) ∉ (s.data.toList.drop f).take (j - f)) (hb : s[j] ≠ 32) : (32 : UInt8) ∉ (s.data.toList.drop f).take (j + 1 - f) := by
  have hsz : s.data.toList.length = s.size := rfl
  rw [show j + 1 - f = j - f + 1 by omega, List.take_succ_eq_append_getElem (by rw [List.length_drop]; omega)]
  intro hm
  rcases List.mem_append.1 hm with hm | hm
  · exact h hm
  · simp only [List.mem_singleton, List.getElem_drop] at hm
    apply hb
    rw [hm]
    show s.data.toList[j] = s.data.toList[f + (j - f)]'(by omega)
    simp only [show f + (j - f) = j by omega]
theorem word_cut {s : ByteArray} {f j : Nat} (hf : f ≤ j) (hj : j < s.size) (h : (32 : UInt8) ∉ (s.data.toList.drop f).take (j - f)) (hb : s[j] = 32) : pieces 32 (s.data.toList.drop f) = (s.data.toList.drop f).take (j - f) :: pieces 32 (s.data.toList.drop (j + 1)) := by
  have hjl : j < s.data.toList.length := hj
  have e : s.data.toList.drop f = (s.data.toList.drop f).take (j - f) ++ 32 :: s.data.toList.drop (j + 1) := by
    conv => lhs; rw [← List.take_append_drop (j - f) (s.data.toList.drop f)]
    congr 1
    rw [List.drop_drop, show f + (j - f) = j by omega, List.drop_eq_getElem_cons hjl]
    congr 1
  conv => lhs; rw [e]
  exact pieces_hit _ h
theorem word_end {s : ByteArray} {f : Nat} (h : (32 : UInt8) ∉ (s.data.toList.drop f).take (s.size - f)) : pieces 32 (s.data.toList.drop f) = [(s.data.toList.drop f).take (s.size - f)] := by
  have e : (s.data.toList.drop f).take (s.size - f) = s.data.toList.drop f := List.take_of_length_le (by rw [List.length_drop]; exact Nat.le_refl _)
  rw [e] at h ⊢
  exact pieces_none h

set_option maxHeartbeats 2000000 in
theorem specWords (s : ByteArray) (w : World) (hs : s.size ≤ 1048576) :
    Calls Tryz.prog 28 #[.string s] w fun e w' => ∃ o, e = .returned o ∧ w'.ownsRow w.heap.size 9 1 o (cutAt 32 s).length ((cutAt 32 s).map tv) ∧ Below w.heap.size w w' := by
  go_enter Tryz.func28, Tryz.ntmps28
  go_wp2_with fail
  go_loopw [3, 4, 5] (fun o f i wr => WordRel s w o f i wr) (fun _ _ i _ => s.size - (intOf i).toNat)
  case atStart => exact ⟨0, 0, [], Nat.le_refl _, Nat.zero_le _, rfl, rfl, Nat.zero_le _, by simp, rfl, own_empty w _ _, (Below.refl _ _).alloc (Nat.le_refl _) _⟩
  case round =>
    obtain ⟨f, j, acc, hf, hj, rfl, rfl, ha, hno, hacc, hown, hb⟩ := hrel
    have HN := Lib.hid hno
    have HA := Lib.hid hacc
    have HO := Lib.hid hown
    clear hno hacc hown
    by_cases hlt : j < s.size
    · have hu : s[j].toNat < 256 := UInt8.toNat_lt _
      by_cases h32 : s[j] = 32
      · have q : ((s[j].toNat : Int) == 32) = true := by rw [h32]; rfl
        have e1 := word_cut hf hlt HN.out h32
        have HE := Lib.hid e1
        have hx := ext_piece s f j
        have HX := Lib.hid hx
        have hcn := cells_new wr #[.string (s.extract f j)] 9
        have HC := Lib.hid hcn
        clear e1 hx hcn h32
        go_wp2_with (at_builtin; refine wpList_app rfl (.tmp 17) (.tmp 22) 36 rfl w.heap.size 9 Tryz.underlying36 infoStrW rfl (by decide) (W := w) rfl (HO.out.alloc _) (hb.alloc hb.size _) (Nat.le_trans hb.size (by simp)) _ 1 1 _ rfl rfl HC.out (one_wv _) (by unfold maxLen; omega) (by omega) ?_; intro v' w' hown' hb' hB')
        have HO2 := Lib.hid hown'
        clear hown'
        go_roundw
        case rel => exact ⟨j + 1, j + 1, acc ++ [s.extract f j], Nat.le_refl _, by omega, by go_num, by go_num, by simp; omega, by simp, by
          rw [← HA.out, HE.out, HX.out]; simp, by simpa [tv] using HO2.out, hb'⟩
        case measure => simp [intOf]; omega
      · have q : ((s[j].toNat : Int) == 32) = false := by
          rw [beq_eq_false_iff_ne]
          intro e
          apply h32
          apply UInt8.toNat_inj.1
          show s[j].toNat = 32
          omega
        have HM := Lib.hid (word_more hf hlt HN.out h32)
        clear h32
        go_wp2_with fail
        go_roundw
        case rel => exact ⟨f, j + 1, acc, by omega, by omega, rfl, by go_num, ha, HM.out, HA.out, HO.out, hb⟩
        case measure => simp [intOf]; omega
    · obtain rfl : j = s.size := by omega
      have HE := Lib.hid (word_end HN.out)
      have HX := Lib.hid (ext_piece s f s.size)
      have hcn := cells_new wr #[.string (s.extract f s.size)] 9
      have HC := Lib.hid hcn
      clear hcn
      go_wp2_with (at_builtin; refine wpList_app rfl (.tmp 26) (.tmp 30) 36 rfl w.heap.size 9 Tryz.underlying36 infoStrW rfl (by decide) (W := w) rfl (HO.out.alloc _) (hb.alloc hb.size _) (Nat.le_trans hb.size (by simp)) _ 1 1 _ rfl rfl HC.out (one_wv _) (by unfold maxLen; omega) (by omega) ?_; intro v' w' hown' hb' hB')
      have HO2 := Lib.hid hown'
      clear hown'
      go_ret
      have hfin : cutAt 32 s = acc ++ [s.extract f s.size] := by rw [← HA.out, HE.out, HX.out]; simp
      exact ⟨_, rfl, by rw [hfin]; simpa [tv] using HO2.out, hb'⟩
/-- The library's variable MaxLen holds a number. -/
def MX (w : World) : Prop := ∃ m, w.cell? ⟨2, 0, none⟩ = some (.int .i64 m)
theorem MX.below {w w' : World} (h : MX w) (hb : Below w.heap.size w w') : MX w' := by
  obtain ⟨m, hm⟩ := h
  exact ⟨m, by rw [hb.cell (block_lt_of_cell hm)]; exact hm⟩
theorem own_row {w : World} {e : TypeId} (l : List ByteArray) (hl : l.length ≤ 10000000) : (w.alloc (.cells (l.map Value.string).toArray e)).ownsRow w.heap.size e 1 (.slice (some ⟨w.heap.size, 0, none⟩) l.length l.length) l.length (l.map tv) :=
  ⟨by simp, .inr ⟨w.heap.size, l.length, _, rfl, Nat.le_refl _, heap_alloc_new w _, Nat.le_refl _, by unfold maxLen; omega, by simp, by
    rw [Nat.mul_one, List.take_of_length_le (by simp)]
    rfl⟩⟩

set_option maxHeartbeats 1000000 in
theorem implWords (s : ByteArray) (w : World) (hs : s.size ≤ 1048576) (hm : MX w) :
    Calls Tryz.prog 27 #[.string s] w fun e w' => ∃ o, e = .returned o ∧ w'.ownsRow w.heap.size 9 1 o (cutAt 32 s).length ((cutAt 32 s).map tv) ∧ Below w.heap.size w w' := by
  obtain ⟨m, hm⟩ := hm
  have hsep : (⟨#[32]⟩ : ByteArray).data.toList = [32] := rfl
  have hcs := split_cutAt 32 s ⟨#[32]⟩ hsep
  have hlen := Lib.splitB_all ⟨#[32]⟩ (by decide) 0 _ s rfl
  rw [hcs] at hlen
  have hle := cutAt_len 32 s
  have HC := Lib.hid (Tryz.strings_Split_s s ⟨#[32]⟩ m w (by omega) hm (by decide))
  have HS := Lib.hid hcs
  have HL := Lib.hid hlen
  have hO := own_row (w := w) (e := 9) (cutAt 32 s) (by omega)
  have HO := Lib.hid hO
  clear hm hcs hlen hO
  go_enter Tryz.func27, Tryz.ntmps27
  go_wp2_with fail
  refine HC.out.mono ?_
  rintro e w1 ⟨rfl, rfl⟩
  rw [← HL.out, HS.out]
  go_wp2_with fail
  go_ret
  exact ⟨_, rfl, HO.out, (Below.refl _ _).alloc (Nat.le_refl _) _⟩
end Go.Proofs.YtbfddabljkoapaaGreatDoor

/-
  The library's listed tables, as a row lists them, lie as the contracts ask.
-/
namespace Go.Proofs.YtbfddabljkoapaaGreatDoor
open Go.RowKit Go.Shelf Go.Lib

theorem accD : (Rows.laid_unicode_utf8_acceptRanges : DataW Unit) = Lib.acceptData := by kernel_rfl
theorem fstD : Rows.laid_unicode_utf8_first = Lib.firstData := Pinned.utf8First_eq
theorem extraU8 : U8Extra Tryz.prog Tryz.lays260_ren := ⟨by kernel_rfl, by kernel_rfl, by kernel_rfl, by kernel_rfl, by kernel_rfl, by kernel_rfl, by kernel_rfl⟩
theorem tabs_of_laid {l : List (String × DataW Unit)} {W : World} (h : laidMet Tryz.prog l W) (ha : ("unicode/utf8.acceptRanges", Rows.laid_unicode_utf8_acceptRanges) ∈ l) (hf : ("unicode/utf8.first", Rows.laid_unicode_utf8_first) ∈ l) : Tabs W :=
  utf8Tabs_of_reads Tryz.lays260 extraU8 (fstD ▸ Lib.laidMet.reads h hf) (accD ▸ Lib.laidMet.reads h ha)
end Go.Proofs.YtbfddabljkoapaaGreatDoor

/-
  The library's table of cases, as a row lists it, lies as the contracts ask.
-/
namespace Go.Proofs.YtbfddabljkoapaaGreatDoor
open Go.RowKit Go.Shelf Go.Lib

theorem casD : Rows.laid_unicode_CaseRanges = Lib.caseData := Pinned.caseRanges_eq
theorem extraCase : CaseExtra Tryz.prog Tryz.laysC159_ren := ⟨by kernel_rfl, by kernel_rfl, by kernel_rfl, by kernel_rfl, by kernel_rfl, by kernel_rfl⟩
theorem caseTab_of_laid {l : List (String × DataW Unit)} {W : World} (h : laidMet Tryz.prog l W) (hc : ("unicode.CaseRanges", Rows.laid_unicode_CaseRanges) ∈ l) : CaseTab W :=
  caseVar_of_reads (ρ := Tryz.laysC159_ren) { Tryz.laysC159 with } (by kernel_rfl) extraCase (casD ▸ Lib.laidMet.reads h hc)
end Go.Proofs.YtbfddabljkoapaaGreatDoor

/-
  A lifted walk that may lean on the shape of the world.
-/
namespace Go.Proofs.YtbfddabljkoapaaGreatDoor
open Go.RowKit
set_option linter.unusedVariables false

theorem handed_shaped {H : Type} {enc : TypeId × Value → H} {a : Assume} {C : Checked} {os : Os} {f : FuncId} {fn : Func} {s : ChangeSpec} {conds : List PathCond} {apart fresh handsOn again : Bool} {X : World → Array Value → Prop}
    (hX : ∀ (w w' : World) (args : Array Value), w.heap = w'.heap → X w args → X w' args)
    (own : ownKnob C.prog.godebug = none) (started : os.Started) (noInit : C.prog.inits.idxOf? f = none) (hfn : C.prog.funcs[f]? = some fn)
    (witness : ∃ (w : World) (tape : Tape) (i : Input), w.os = os ∧ (w.forCall tape i).Shaped C.prog ∧ i.vars = [] ∧ Input.okWide C.prog (w.forCall tape i) .any w.heap.size f i ∧
      ((s.pre enc C.prog fn conds apart (w.forCall tape i).memory i.args ∧ X (w.forCall tape i).memory i.args) ∧ sizedMet enc C.prog fn (OpenSpec.ofChange s) apart (w.forCall tape i).memory i.args) ∧ a.holds C.prog (lone (Frame.enter C.prog f i.args .normal) [] (w.forCall tape i)))
    (contract : ∀ (W : World) (base : Nat) (args : Array Value) (ds gs : List (DataW H)) (before : List MemPlace),
      (∀ (j : Nat) t v, fn.params[j]? = some t → args[j]? = some v → Value.okWide C.prog W .any base t v) →
      DataW.Whole enc C.prog fn.params.toList s.vars apart W args.toList ds gs before →
      conds.all (PathCond.test C.prog ⟨fn.params.toList, ds, s.plain.varTypes C.prog, gs⟩) = true →
      (DataW.weightsEach C.prog (fn.params.toList ++ s.plain.varTypes C.prog) (ds ++ gs)).all (· ≤ reachBytes) = true → X W args → W.ShapedOpen C.prog →
      a.holds C.prog (lone (Frame.enter C.prog f args .normal) [] W) →
      Calls C.prog f args W fun e W' => ∃ v, e = .returned v ∧ s.post enc C.prog fn apart fresh handsOn again W args v W') :
    ReturnsInHanded a C os f .any (fun w args => (s.pre enc C.prog fn conds apart w args ∧ X w args) ∧ sizedMet enc C.prog fn (OpenSpec.ofChange s) apart w args) (s.post enc C.prog fn apart fresh handsOn again) := by
  refine returnsInHanded_of_calls own started noInit witness ?_
  intro w tape i _ hsh _ hok hpre hholds
  obtain ⟨_, _, _, fn', hfn', _, _, _, _, hval⟩ := hok
  have e : fn' = fn := Option.some.inj (hfn'.symm.trans hfn)
  subst e
  obtain ⟨⟨⟨ds, gs, before, hw, hc⟩, hx⟩, hz⟩ := hpre
  have hw' := DataW.Whole.of_heap (w' := w.forCall tape i) (by rfl) hw
  refine (contract (w.forCall tape i) w.heap.size i.args ds gs before hval hw' hc (hz.weights hw) (hX _ _ _ (by rfl) hx) hsh hholds).mono fun e W' ⟨v, he, hp⟩ => ?_
  subst he
  exact ChangeSpec.post_blind hp
end Go.Proofs.YtbfddabljkoapaaGreatDoor
