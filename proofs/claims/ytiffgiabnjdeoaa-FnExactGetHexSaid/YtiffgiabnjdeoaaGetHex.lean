/-
  GetHex: bytes out of their digits, for a text of at most 1048576 bytes.
-/
import Derived.Test.YtiffgiabnjdeoaaKit
import Derived.Test.YtiffgiabnjdeoaaShelf
import Derived.BigQuiet
import Derived.Deep.QuietTactic
namespace Go.Proofs.Ytiffgiabnjdeoaa
open Go.RowKit
set_option linter.unusedVariables false

/-- The value of a hexadecimal digit, or -1. -/
def hexV (c : UInt8) : Int := if 48 ≤ c.toNat ∧ c.toNat ≤ 57 then (c.toNat : Int) - 48 else if 97 ≤ c.toNat ∧ c.toNat ≤ 102 then (c.toNat : Int) - 87 else -1
theorem hexV_range (c : UInt8) : -1 ≤ hexV c ∧ hexV c ≤ 15 := by
  unfold hexV; split
  · omega
  · split <;> omega
theorem hexV_index : ∀ c : UInt8, Lib.indexByte (ByteArray.mk #[48, 49, 50, 51, 52, 53, 54, 55, 56, 57, 97, 98, 99, 100, 101, 102]).data.toList c = hexV c := by
  have h : ∀ i : Fin 256, Lib.indexByte (ByteArray.mk #[48, 49, 50, 51, 52, 53, 54, 55, 56, 57, 97, 98, 99, 100, 101, 102]).data.toList (UInt8.ofNat i.val) = hexV (UInt8.ofNat i.val) := by decide +kernel
  intro c
  have := h ⟨c.toNat, UInt8.toNat_lt c⟩
  simpa using this

theorem specDigit (c : UInt8) (w : World) : Calls Try.prog 40 #[.int .u8 c.toNat] w fun e w' => e = .returned (.int .i64 (hexV c)) ∧ w' = w := by
  have hu := UInt8.toNat_lt c
  unfold hexV
  split
  · have hd : decide ((c.toNat : Int) ≤ 57) = true := by simp; omega
    go_enter Try.func40, Try.ntmps40
    go_wp2_with go_in
    go_ret
    exact ⟨rfl, rfl⟩
  · split
    · have hd : decide ((c.toNat : Int) ≤ 57) = false := by simp; omega
      have hd2 : decide ((c.toNat : Int) ≤ 102) = true := by simp; omega
      go_enter Try.func40, Try.ntmps40
      go_wp2_with go_in
      go_ret
      exact ⟨rfl, rfl⟩
    · rcases (show decide (48 ≤ (c.toNat : Int)) = false ∧ decide (97 ≤ (c.toNat : Int)) = false ∨ decide (48 ≤ (c.toNat : Int)) = true ∧ decide ((c.toNat : Int) ≤ 57) = false ∧ decide (97 ≤ (c.toNat : Int)) = false ∨ decide (48 ≤ (c.toNat : Int)) = true ∧ decide ((c.toNat : Int) ≤ 57) = false ∧ decide (97 ≤ (c.toNat : Int)) = true ∧ decide ((c.toNat : Int) ≤ 102) = false by simp; omega) with hc | hc | hc
      all_goals
        go_enter Try.func40, Try.ntmps40
        go_wp2_with go_in
        go_ret
        exact ⟨rfl, rfl⟩

theorem implDigit (c : UInt8) (w : World) : Calls Try.prog 41 #[.string ⟨#[48, 49, 50, 51, 52, 53, 54, 55, 56, 57, 97, 98, 99, 100, 101, 102]⟩, .int .u8 c.toNat] w fun e w' => e = .returned (.int .i64 (hexV c)) ∧ w' = w := by
  refine (Try.strings_IndexByte _ _ w).mono ?_
  rintro e w' ⟨rfl, rfl⟩
  refine ⟨?_, rfl⟩
  rw [Int.toNat_natCast, show c.toNat.toUInt8 = c by simp, hexV_index]

def hexB (a b : UInt8) : UInt8 := UInt8.ofNat (16 * hexV a + hexV b).toNat
/-- The bytes that digits stand for. -/
def hexRead : List UInt8 → Option (List UInt8)
  | [] => some []
  | [_] => none
  | a :: b :: l => if hexV a < 0 ∨ hexV b < 0 then none else (hexRead l).map (hexB a b :: ·)
def ghS (l : List UInt8) : ByteArray := match hexRead l with | some o => str o | none => ⟨#[]⟩
def ghB (l : List UInt8) : Bool := (hexRead l).isSome
/-- What has been read ahead of place j. -/
def HexAt (l : List UInt8) (j : Nat) (pre : List UInt8) : Prop := 2 * pre.length = j ∧ hexRead l = (hexRead (l.drop j)).map (pre ++ ·)
theorem hexAt_zero (l : List UInt8) : HexAt l 0 [] := ⟨rfl, by simp⟩
theorem drop_two (s : ByteArray) (j : Nat) (h : j + 1 < s.size) : s.data.toList.drop j = s[j] :: s[j + 1] :: s.data.toList.drop (j + 2) := by
  have e : s.data.toList.length = s.size := by simp
  rw [List.drop_eq_getElem_cons (by omega), List.drop_eq_getElem_cons (by omega)]
  rfl
theorem hexAt_next {s : ByteArray} {j : Nat} {pre : List UInt8} (h : HexAt s.data.toList j pre) (hj : j + 1 < s.size) (ha : ¬ hexV s[j] < 0) (hb : ¬ hexV s[j + 1] < 0) : HexAt s.data.toList (j + 2) (pre ++ [hexB s[j] s[j + 1]]) := by
  refine ⟨by simp; have := h.1; omega, ?_⟩
  rw [h.2, drop_two s j hj, hexRead, if_neg (by simp [ha, hb]), Option.map_map]
  congr 1
  funext x
  simp
theorem hexAt_bad {s : ByteArray} {j : Nat} {pre : List UInt8} (h : HexAt s.data.toList j pre) (hj : j + 1 < s.size) (hab : hexV s[j] < 0 ∨ hexV s[j + 1] < 0) : ghS s.data.toList = ⟨#[]⟩ ∧ ghB s.data.toList = false := by
  have e : hexRead s.data.toList = none := by rw [h.2, drop_two s j hj, hexRead, if_pos hab]; rfl
  unfold ghS ghB
  rw [e]
  exact ⟨rfl, rfl⟩
theorem hexAt_odd {s : ByteArray} {j : Nat} {pre : List UInt8} (h : HexAt s.data.toList j pre) (hj : j + 1 = s.size) : ghS s.data.toList = ⟨#[]⟩ ∧ ghB s.data.toList = false := by
  have el : s.data.toList.length = s.size := by simp
  have e : hexRead s.data.toList = none := by
    rw [h.2, List.drop_eq_getElem_cons (by omega), List.drop_of_length_le (by omega)]
    rfl
  unfold ghS ghB
  rw [e]
  exact ⟨rfl, rfl⟩
theorem hexAt_end {s : ByteArray} {j : Nat} {pre : List UInt8} (h : HexAt s.data.toList j pre) (hj : j = s.size) : ghS s.data.toList = str pre ∧ ghB s.data.toList = true := by
  have el : s.data.toList.length = s.size := by simp
  have e : hexRead s.data.toList = some pre := by
    rw [h.2, List.drop_of_length_le (by omega)]
    simp [hexRead]
  unfold ghS ghB
  rw [e]
  exact ⟨rfl, rfl⟩
theorem hex_odd : ∀ (n : Nat) (l : List UInt8), l.length = 2 * n + 1 → hexRead l = none := by
  intro n
  induction n with
  | zero =>
    intro l h
    match l, h with
    | [_], _ => rfl
  | succ n ih =>
    intro l h
    match l, h with
    | a :: b :: l, h =>
      rw [hexRead, ih l (by simp at h; omega)]
      split <;> rfl
theorem hexRead_odd (s : ByteArray) (h : s.size % 2 = 1) : ghS s.data.toList = ⟨#[]⟩ ∧ ghB s.data.toList = false := by
  have el : s.data.toList.length = s.size := by simp
  have e := hex_odd (s.size / 2) s.data.toList (by omega)
  unfold ghS ghB
  rw [e]
  exact ⟨rfl, rfl⟩
theorem hex_value (a b : UInt8) (ha : ¬ hexV a < 0) (hb : ¬ hexV b < 0) : Value.int .u8 (16 * hexV a + hexV b) = bv (hexB a b) := by
  have h1 := hexV_range a
  have h2 := hexV_range b
  unfold bv hexB
  rw [UInt8.toNat_ofNat']
  congr 1
  omega
theorem hex_or (a b : UInt8) (ha : ¬ hexV a < 0) (hb : ¬ hexV b < 0) : bits .or .i64 (hexV a * 16) (hexV b) = 16 * hexV a + hexV b := by
  have h1 := hexV_range a
  have h2 := hexV_range b
  have h : ∀ x y : Fin 16, bits .or .i64 ((x.val : Int) * 16) (y.val : Int) = 16 * (x.val : Int) + (y.val : Int) := by decide +kernel
  have := h ⟨(hexV a).toNat, by omega⟩ ⟨(hexV b).toNat, by omega⟩
  simp only [] at this
  rw [show ((hexV a).toNat : Int) = hexV a by omega, show ((hexV b).toNat : Int) = hexV b by omega] at this
  exact this

/-- What the loops hold at place j. -/
def GhRel (s : ByteArray) (w : World) (v i : Value) (wr : World) : Prop :=
  ∃ (j : Nat) (pre : List UInt8), j ≤ s.size ∧ i = .int .i64 j ∧ HexAt s.data.toList j pre ∧ pre.length ≤ j ∧ wr.ownsRow w.heap.size 5 1 v pre.length (pre.map bv) ∧ Below w.heap.size w wr
theorem gh_next {s : ByteArray} {w wr : World} {j : Nat} {pre : List UInt8} {v : Value} {x : Int} (h : Hid (HexAt s.data.toList j pre)) (hj : j + 1 < s.size) (ha : ¬ hexV s[j] < 0) (hb : ¬ hexV s[j + 1] < 0) (hx : x = 16 * hexV s[j] + hexV s[j + 1])
    (hown : wr.ownsRow w.heap.size 5 1 v (pre.length + 1) (pre.map bv ++ [.int .u8 x])) (hbl : Below w.heap.size w wr) : GhRel s w v (.int .i64 ((j : Int) + 2)) wr := by
  subst hx
  rw [hex_value _ _ ha hb] at hown
  have h' := hexAt_next h.out hj ha hb
  exact ⟨j + 2, _, by omega, by go_num, h', by have := h'.1; omega, by simpa using hown, hbl⟩
theorem tup_eq {a a' b b' : Value} (h1 : a = a') (h2 : b = b') : Ending.returned (.tuple #[a, b]) = Ending.returned (.tuple #[a', b']) := by rw [h1, h2]

theorem idx2 (s : ByteArray) (j : Nat) (h : j + 1 < s.size) (hs : s.size ≤ 1048576 := by assumption) : (j : Int) < (s.size : Int) ∧ (j : Int) + 1 < (s.size : Int) ∧ IntKind.i64.wrap ((j : Int) + 1) = (j : Int) + 1 ∧ 0 ≤ (j : Int) + 1 ∧ ((j : Int) + 1).toNat = j + 1 := by
  refine ⟨by omega, by omega, ?_, by omega, by omega⟩
  rw [IntKind.wrap_i64]; omega

set_option maxHeartbeats 2000000 in
theorem specGetHex (s : ByteArray) (w : World) (hs : s.size ≤ 1048576) :
    Calls Try.prog 23 #[.string s] w fun e w' => e = .returned (.tuple #[.string (ghS s.data.toList), .bool (ghB s.data.toList)]) ∧ Below w.heap.size w w' := by
  go_enter Try.func23, Try.ntmps23
  go_wp2
  go_loopw [4, 5] (fun v i wr => GhRel s w v i wr) (fun _ i _ => s.size - (intOf i).toNat)
  case atStart => exact ⟨0, [], Nat.zero_le _, rfl, hexAt_zero _, Nat.le_refl _, own_empty w _ _, (Below.refl _ _).alloc (Nat.le_refl _) _⟩
  case round =>
    obtain ⟨j, pre, hj, rfl, hx, hpl, hown, hb⟩ := hrel
    have HX := Lib.hid hx
    clear hx
    by_cases hlt : j + 1 < s.size
    · have ra := hexV_range s[j]
      have rb := hexV_range s[j + 1]
      by_cases ha : hexV s[j] < 0
      · have HE := Lib.hid (hexAt_bad HX.out hlt (.inl ha))
        go_wp2_with fail
        obtain ⟨k1, k2, k3, k4, k5⟩ := idx2 s j hlt
        go_quiet ((go_at_call 40; exact Calls.quiet_of_same (specDigit _ _)))
        clear k3
        go_wp2_with fail
        go_ret2
        exact ⟨tup_eq (congrArg Value.string HE.out.1.symm) (congrArg Value.bool HE.out.2.symm), below_drewN hb _⟩
      · by_cases hb2 : hexV s[j + 1] < 0
        · have HE := Lib.hid (hexAt_bad HX.out hlt (.inr hb2))
          go_wp2_with fail
          obtain ⟨k1, k2, k3, k4, k5⟩ := idx2 s j hlt
          go_quiet ((go_at_call 40; exact Calls.quiet_of_same (specDigit _ _)))
          clear k3
          go_wp2_with fail
          go_ret2
          exact ⟨tup_eq (congrArg Value.string HE.out.1.symm) (congrArg Value.bool HE.out.2.symm), below_drewN hb _⟩
        · go_wp2_with fail
          obtain ⟨k1, k2, k3, k4, k5⟩ := idx2 s j hlt
          go_quiet ((go_at_call 40; exact Calls.quiet_of_same (specDigit _ _)))
          clear k3
          have hbq := below_drewN hb nq
          have hownq := own_drewN hown nq
          generalize wr.drewN nq = wq at *
          clear hb hown
          go_wp2_with (at_builtin; refine wpList_app rfl (.tmp 31) (.tmp 37) 48 rfl w.heap.size 5 Try.underlying48 infoU8 rfl (by decide) rfl (hownq.alloc _) (hbq.alloc hbq.size _) (Nat.le_trans hbq.size (by simp)) _ 1 1 _ rfl rfl (cells_new _ _ _) (one_u8 _) (by unfold maxLen; omega) (by omega) ?_; intro v' w' hown' hb' hB')
          go_roundw
          case rel => exact gh_next HX hlt (by omega) (by omega) rfl hown' hb'
          case measure => simp [intOf]; omega
    · by_cases he : j = s.size
      · have HE := Lib.hid (hexAt_end HX.out he)
        have he2 : ((s.size : Int) % 2 == 1) = false := by
          have := HX.out.1
          simp; omega
        have hcv := run_string_own (P := Try.prog) 48 9 5 Try.underlying48 Try.underlying5 Try.underlying9 hown
        clear hown he
        go_wp2
        go_ret2
        exact ⟨tup_eq (congrArg Value.string HE.out.1.symm) (congrArg Value.bool HE.out.2.symm), hb⟩
      · have HE := Lib.hid (hexAt_odd HX.out (by omega))
        have he2 : ((s.size : Int) % 2 == 1) = true := by
          have := HX.out.1
          simp; omega
        go_wp2
        go_ret2
        exact ⟨tup_eq (congrArg Value.string HE.out.1.symm) (congrArg Value.bool HE.out.2.symm), hb⟩

set_option maxHeartbeats 2000000 in
theorem implGetHex (s : ByteArray) (w : World) (hs : s.size ≤ 1048576) :
    Calls Try.prog 24 #[.string s] w fun e w' => e = .returned (.tuple #[.string (ghS s.data.toList), .bool (ghB s.data.toList)]) ∧ Below w.heap.size w w' := by
  by_cases hodd : s.size % 2 = 1
  · have HE := Lib.hid (hexRead_odd s hodd)
    have he2 : ((s.size : Int) % 2 == 1) = true := by simp; omega
    clear hodd
    go_enter Try.func24, Try.ntmps24
    go_wp2
    go_ret2
    exact ⟨tup_eq (congrArg Value.string HE.out.1.symm) (congrArg Value.bool HE.out.2.symm), Below.refl _ _⟩
  · have he2 : ((s.size : Int) % 2 == 1) = false := by simp; omega
    obtain ⟨i0, hi, hz0, hz1, hz2⟩ := info_parts infoU8
    have HO := Lib.hid hodd
    clear hodd
    go_enter Try.func24, Try.ntmps24
    go_wp2_with (at_make; refine wpList_make_own _ rfl _ _ 48 rfl w.heap.size 5 i0 (.int .u8 0) 1 Try.underlying48 hi hz0 hz1 _ _ _ (s.size / 2) rfl rfl (by omega) ?b1 ?b2 ?b3 ?_)
    case b1 => rw [hz2]; omega
    case b2 => unfold maxLen; omega
    case b3 => omega
    intro w1 hown1 hg1
    go_wp2
    go_loopw [4, 5] (fun v i wr => GhRel s w v i wr) (fun _ i _ => s.size - (intOf i).toNat)
    case atStart => exact ⟨0, [], Nat.zero_le _, rfl, hexAt_zero _, Nat.le_refl _, hown1, (Below.refl _ _).grown hg1 (Nat.le_refl _) (fun k h => by cases h)⟩
    case round =>
      obtain ⟨j, pre, hj, rfl, hx, hpl, hown, hb⟩ := hrel
      have HX := Lib.hid hx
      clear hx
      by_cases hlt : j < s.size
      · have hlt : j + 1 < s.size := by have := HX.out.1; have := HO.out; omega
        have ra := hexV_range s[j]
        have rb := hexV_range s[j + 1]
        by_cases ha : hexV s[j] < 0
        · have HE := Lib.hid (hexAt_bad HX.out hlt (.inl ha))
          go_wp2_with fail
          obtain ⟨k1, k2, k3, k4, k5⟩ := idx2 s j hlt
          go_quiet ((go_at_call 41; exact Calls.quiet_of_same (implDigit _ _)))
          clear k3
          go_wp2_with fail
          go_ret2
          exact ⟨tup_eq (congrArg Value.string HE.out.1.symm) (congrArg Value.bool HE.out.2.symm), below_drewN hb _⟩
        · by_cases hb2 : hexV s[j + 1] < 0
          · have HE := Lib.hid (hexAt_bad HX.out hlt (.inr hb2))
            go_wp2_with fail
            obtain ⟨k1, k2, k3, k4, k5⟩ := idx2 s j hlt
            go_quiet ((go_at_call 41; exact Calls.quiet_of_same (implDigit _ _)))
            clear k3
            go_wp2_with fail
            go_ret2
            exact ⟨tup_eq (congrArg Value.string HE.out.1.symm) (congrArg Value.bool HE.out.2.symm), below_drewN hb _⟩
          · go_wp2_with fail
            obtain ⟨k1, k2, k3, k4, k5⟩ := idx2 s j hlt
            go_quiet ((go_at_call 41; exact Calls.quiet_of_same (implDigit _ _)))
            clear k3
            have hbq := below_drewN hb nq
            have hownq := own_drewN hown nq
            have hor := hex_or s[j] s[j + 1] (by omega) (by omega)
            generalize wr.drewN nq = wq at *
            clear hb hown
            go_wp2_with (at_builtin; refine wpList_app rfl (.tmp 37) (.tmp 43) 48 rfl w.heap.size 5 Try.underlying48 infoU8 rfl (by decide) rfl (hownq.alloc _) (hbq.alloc hbq.size _) (Nat.le_trans hbq.size (by simp)) _ 1 1 _ rfl rfl (cells_new _ _ _) (one_u8 _) (by unfold maxLen; omega) (by omega) ?_; intro v' w' hown' hb' hB')
            go_roundw
            case rel => exact gh_next HX hlt (by omega) (by omega) rfl hown' hb'
            case measure => simp [intOf]; omega
      · have HE := Lib.hid (hexAt_end HX.out (by omega))
        have hcv := run_string_own (P := Try.prog) 48 9 5 Try.underlying48 Try.underlying5 Try.underlying9 hown
        clear hown
        go_wp2
        go_ret2
        exact ⟨tup_eq (congrArg Value.string HE.out.1.symm) (congrArg Value.bool HE.out.2.symm), hb⟩
end Go.Proofs.Ytiffgiabnjdeoaa
