/-
  Field of the reference and of the program: a copy of the value at a key.
-/
import Derived.Test.YtlfiaccpihjldaaCopy
namespace Go.Proofs.Ytlfiaccpihjldaa
open Go.RowKit
set_option linter.unusedVariables false
set_option linter.unusedSimpArgs false

/-- The m-th pair's key is this text. -/
def keyHit (l : List V) (key : ByteArray) (m : Nat) : Bool := match l[2 * m]? with
  | some x => x.k == 5 && x.s.toList == key.toList
  | none => false
def keyIdx (l : List V) (key : ByteArray) : Option Nat := (List.range (l.length / 2)).find? (keyHit l key)
theorem keyHit_eq {l : List V} {key : ByteArray} {m p : Nat} (hp : p = 2 * m) (h : p < l.length) : keyHit l key m = ((l[p]).k == 5 && (l[p]).s.toList == key.toList) := by
  subst hp
  unfold keyHit
  rw [List.getElem?_eq_getElem h]
theorem keyIdx_some {l : List V} {key : ByteArray} {m : Nat} (h : 2 * m + 1 < l.length) (hm : keyHit l key m = true) (hb : ∀ j < m, keyHit l key j = false) : keyIdx l key = some m := by
  unfold keyIdx
  rw [List.find?_range_eq_some]
  exact ⟨hm, List.mem_range.2 (by omega), fun j hj => by rw [hb j hj]; rfl⟩
theorem keyIdx_none {l : List V} {key : ByteArray} {m : Nat} (h : ¬ 2 * m + 1 < l.length) (hb : ∀ j < m, keyHit l key j = false) : keyIdx l key = none := by
  unfold keyIdx
  rw [List.find?_range_eq_none]
  exact fun j hj => by rw [hb j (by omega)]; rfl
/-- The place of a key, -1 if there is none. -/
def keyPos (l : List V) (key : ByteArray) : Int := match keyIdx l key with
  | some m => 2 * (m : Int)
  | none => -1

set_option maxHeartbeats 1000000 in
theorem specKey (l : List V) (key : ByteArray) (A : Option Addr) (cap : Nat) (w : World) (hl : l.length ≤ 1048576) (hat : Vs.at_ w 0 w.heap.size l A) :
    Calls Try.prog 44 #[.slice A l.length cap, .string key] w fun e w' => e = .returned (.int .i64 (keyPos l key)) ∧ w = w' := by
  have HA := Lib.hid hat
  clear hat
  go_enter Try.func44, Try.ntmps44
  go_wp2_with fail
  go_loop [5] (fun i => ∃ p m : Nat, p = 2 * m ∧ p ≤ l.length + 1 ∧ i = .int .i64 p ∧ ∀ j < m, keyHit l key j = false) (fun i => l.length + 2 - (intOf i).toNat)
  case atStart => exact ⟨0, 0, rfl, by omega, rfl, fun j h => by omega⟩
  case round =>
    obtain ⟨p, m, hpm, hp, rfl, hb⟩ := hrel
    have HP := Lib.hid hpm
    have HB := Lib.hid hb
    clear hpm hb
    by_cases hlt : p + 1 < l.length
    · obtain ⟨g, off, A', cap', rfl, g1, g2, g3, ⟨c0, c1, c2, c3, c4⟩, g5⟩ := Vs.at_get p (by omega) HA.out
      have HH := Lib.hid (keyHit_eq (key := key) HP.out (show p < l.length by omega))
      cases h5 : ((l[p]).k == 5) with
      | false =>
        go_wp2_with fail
        go_round
        case rel => exact ⟨p + 2, m + 1, by have := HP.out; omega, by omega, by go_num, fun j hj => by
          rcases Nat.lt_succ_iff_lt_or_eq.1 hj with h | rfl
          · exact HB.out j h
          · rw [HH.out, h5]; rfl⟩
        case measure => simp [intOf]; omega
      | true =>
        cases hs : ((l[p]).s.toList == key.toList) with
        | false =>
          go_wp2_with fail
          go_round
          case rel => exact ⟨p + 2, m + 1, by have := HP.out; omega, by omega, by go_num, fun j hj => by
            rcases Nat.lt_succ_iff_lt_or_eq.1 hj with h | rfl
            · exact HB.out j h
            · rw [HH.out, h5, hs]; rfl⟩
          case measure => simp [intOf]; omega
        | true =>
          go_wp2_with fail
          go_ret
          refine ⟨ret_num ?_, rfl⟩
          have h1 := HP.out
          rw [keyPos, keyIdx_some (m := m) (by omega) (by rw [HH.out, h5, hs]; rfl) HB.out]
          simp
          omega
    · go_wp2_with fail
      go_ret
      refine ⟨ret_num ?_, rfl⟩
      have h1 := HP.out
      rw [keyPos, keyIdx_none (m := m) (by omega) HB.out]

set_option maxHeartbeats 1000000 in
theorem implFind (v : V) (key : ByteArray) (A : Option Addr) (cap : Nat) (w : World) (hl : v.kids.length ≤ 1048576) (hat : Vs.at_ w 0 w.heap.size v.kids A) (h8 : (v.k == 8) = true) :
    Calls Try.prog 46 #[v.agg A cap, .string key] w fun e w' => e = .returned (.int .i64 (keyPos v.kids key)) ∧ Below w.heap.size w w' := by
  have HA := Lib.hid hat
  clear hat
  unfold V.agg
  go_enter Try.func46, Try.ntmps46
  go_wp2_with fail
  obtain ⟨w2, hw2⟩ : ∃ w2, w2 = w.alloc (.cells #[.int .i64 v.k, .int .i64 v.n, .int .i64 v.e, .string v.s, .slice A v.kids.length cap] 29) := ⟨_, rfl⟩
  have B : Blk w2 w.heap.size 29 #[.int .i64 v.k, .int .i64 v.n, .int .i64 v.e, .string v.s, .slice A v.kids.length cap] := by rw [hw2]; exact Blk.new w _ _
  have b2 : Below w.heap.size w w2 := by rw [hw2]; exact (Below.refl _ w).alloc (Nat.le_refl _) _
  obtain ⟨p0, p1, p2, p3, p4⟩ := B.five
  have HA2 := Lib.hid (Vs.at_below HA.out b2 (Nat.le_refl _))
  have HB2 := Lib.hid b2
  rw [← hw2]
  clear hw2 B b2
  go_loop [5] (fun i => ∃ p m : Nat, p = 2 * m ∧ p ≤ v.kids.length + 1 ∧ i = .int .i64 p ∧ ∀ j < m, keyHit v.kids key j = false) (fun i => v.kids.length + 2 - (intOf i).toNat)
  case atStart => exact ⟨0, 0, rfl, by omega, rfl, fun j h => by omega⟩
  case round =>
    obtain ⟨p, m, hpm, hp, rfl, hb⟩ := hrel
    have HP := Lib.hid hpm
    have HB := Lib.hid hb
    clear hpm hb
    by_cases hlt : p + 1 < v.kids.length
    · obtain ⟨g, off, A', cap', rfl, g1, g2, g3, ⟨c0, c1, c2, c3, c4⟩, g5⟩ := Vs.at_get p (by omega) HA2.out
      have HH := Lib.hid (keyHit_eq (key := key) HP.out (show p < v.kids.length by omega))
      cases h5 : ((v.kids[p]).k == 5) with
      | false =>
        go_wp2_with fail
        go_round
        case rel => exact ⟨p + 2, m + 1, by have := HP.out; omega, by omega, by go_num, fun j hj => by
          rcases Nat.lt_succ_iff_lt_or_eq.1 hj with h | rfl
          · exact HB.out j h
          · rw [HH.out, h5]; rfl⟩
        case measure => simp [intOf]; omega
      | true =>
        cases hs : ((v.kids[p]).s.toList == key.toList) with
        | false =>
          go_wp2_with fail
          go_round
          case rel => exact ⟨p + 2, m + 1, by have := HP.out; omega, by omega, by go_num, fun j hj => by
            rcases Nat.lt_succ_iff_lt_or_eq.1 hj with h | rfl
            · exact HB.out j h
            · rw [HH.out, h5, hs]; rfl⟩
          case measure => simp [intOf]; omega
        | true =>
          go_wp2_with fail
          go_ret
          refine ⟨ret_num ?_, HB2.out⟩
          have h1 := HP.out
          rw [keyPos, keyIdx_some (m := m) (by omega) (by rw [HH.out, h5, hs]; rfl) HB.out]
          simp
          omega
    · go_wp2_with fail
      go_ret
      refine ⟨ret_num ?_, HB2.out⟩
      have h1 := HP.out
      rw [keyPos, keyIdx_none (m := m) (by omega) HB.out]
set_option maxHeartbeats 1000000 in
theorem implFind_no (v : V) (key : ByteArray) (A : Option Addr) (cap : Nat) (w : World) (h8 : (v.k == 8) = false) :
    Calls Try.prog 46 #[v.agg A cap, .string key] w fun e w' => e = .returned (.int .i64 (-1)) ∧ Below w.heap.size w w' := by
  unfold V.agg
  go_enter Try.func46, Try.ntmps46
  go_wp2_with fail
  go_loop [5] (fun i => i = .int .i64 0) (fun i => 1)
  case atStart => rfl
  case round =>
    subst hrel
    go_wp2_with fail
    go_ret
    exact ⟨rfl, (Below.refl _ w).alloc (Nat.le_refl _) _⟩
end Go.Proofs.Ytlfiaccpihjldaa
