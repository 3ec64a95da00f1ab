/-
  Rows of numbers: the laws' equality, their marks, and whether the marks are still held.
-/
import Derived.Test.YtmfogabkpeoagaaKit
import Derived.Test.YtmfogabkpeoagaaInt
import Derived.BigQuiet
import Derived.Deep.RegionHeld3
namespace Go.Proofs.Ytmfogabkpeoagaa
open Go.RowKit
set_option linter.unusedVariables false
set_option linter.unusedSimpArgs false

/-- A number as a cell. -/
def iz (n : Int) : Value := .int .i64 n
theorem rowi_form {w : World} {base : Nat} {e : TypeId} {o : Value} {n : Nat} {xs : List Value} (h : w.ownsRow base e 1 o n xs) : ∃ A c, o = .slice A n c ∧ (0 < n → ∃ g, A = some ⟨g, 0, none⟩) := by
  rcases h.2 with ⟨rfl, rfl⟩ | ⟨g, c, cur, rfl, _⟩
  · exact ⟨none, 0, rfl, fun h => absurd h (by omega)⟩
  · exact ⟨_, _, rfl, fun _ => ⟨g, rfl⟩⟩
theorem rowi_cell {w : World} {base g c : Nat} {e : TypeId} {l : List Int} (h : w.ownsRow base e 1 (.slice (some ⟨g, 0, none⟩) l.length c) l.length (l.map iz)) (j : Nat) (hj : j < l.length) : w.cell? ⟨g, j, none⟩ = some (.int .i64 l[j]) := by
  rw [h.cellAt j (by omega)]
  simp [hj, iz]

set_option maxHeartbeats 1000000 in
theorem eqIntRow (l : List Int) (o p : Value) (b1 b2 : Nat) (w : World) (hn : l.length ≤ 10000000) (ho : w.ownsRow b1 3 1 o l.length (l.map iz)) (hp : w.ownsRow b2 3 1 p l.length (l.map iz)) :
    Calls Try.prog 9 #[o, p] w fun e w' => e = .returned (.bool true) ∧ Below w.heap.size w w' := by
  obtain ⟨A, c, rfl, hA⟩ := rowi_form ho
  obtain ⟨B, d, rfl, hB⟩ := rowi_form hp
  have HA := Lib.hid hA
  have HB := Lib.hid hB
  have HO := Lib.hid ho
  have HP := Lib.hid hp
  clear hA hB ho hp
  go_enter Try.func9, Try.ntmps9
  go_wp2_with fail
  go_loopw [5] (fun i wr => ∃ j : Nat, j ≤ l.length ∧ i = .int .i64 j ∧ Below w.heap.size w wr) (fun i _ => l.length - (intOf i).toNat)
  case atStart => exact ⟨0, Nat.zero_le _, rfl, Below.refl _ _⟩
  case round =>
    obtain ⟨j, hj, rfl, hb⟩ := hrel
    by_cases hlt : j < l.length
    · obtain ⟨g, rfl⟩ := HA.out (by omega)
      obtain ⟨g', rfl⟩ := HB.out (by omega)
      have c0 := rowi_cell (own_below HO.out hb) j hlt
      have d0 := rowi_cell (own_below HP.out hb) j hlt
      go_wp2_with fail
      go_quiet (fail)
      go_wp2_with fail
      go_roundw
      case rel => exact ⟨j + 1, by omega, by go_num, below_drewN hb _⟩
      case measure => simp [intOf]; omega
    · obtain rfl : j = l.length := by omega
      go_wp2_with fail
      go_ret
      exact ⟨rfl, hb⟩

/-- The marks from k on. -/
def marksI (k n : Nat) : List Int := (List.range n).map fun i => ((k + i : Nat) : Int)
theorem marksI_len (k n : Nat) : (marksI k n).length = n := by simp [marksI]

/-- A row of which the first j cells are marked. -/
def markedI (k : Nat) (xs : List Value) (j : Nat) : List Value := (marksI k j).map iz ++ xs.drop j
theorem markedI_step (k : Nat) (xs : List Value) (j : Nat) (h : j < xs.length) : (markedI k xs j).set j (iz ((k + j : Nat) : Int)) = markedI k xs (j + 1) := by
  unfold markedI
  rw [List.set_append_right _ _ (by simp [marksI_len])]
  rw [List.length_map, marksI_len, Nat.sub_self, List.drop_eq_getElem_cons h, List.set_cons_zero]
  unfold marksI
  rw [List.range_succ]
  simp
theorem markedI_all (k : Nat) (xs : List Value) : markedI k xs xs.length = (marksI k xs.length).map iz := by unfold markedI; simp

theorem grown_refl (w : World) (r : Option Nat) : w.grownBy w r := ⟨rfl, rfl, rfl, Nat.le_refl _, fun _ _ _ => rfl⟩
theorem grown_trans {a b c : World} {r : Option Nat} (h : a.grownBy b r) (k : b.grownBy c r) : a.grownBy c r :=
  ⟨k.os.trans h.os, k.tape.trans h.tape, k.output.trans h.output, Nat.le_trans h.size k.size, fun i hi hr => (k.block i (Nat.lt_of_lt_of_le hi h.size) hr).trans (h.block i hi hr)⟩
/-- A row in another block. -/
theorem own_grown {w w' : World} {base e size n : Nat} {v : Value} {xs : List Value} {r : Option Nat} (h : w.ownsRow base e size v n xs) (hg : w.grownBy w' r) (hr : ∀ g, v.ownBlock = some g → some g ≠ r) : w'.ownsRow base e size v n xs := by
  refine ⟨h.1, ?_⟩
  rcases h.2 with h' | ⟨g, c, cur, rfl, h1, h2, h3⟩
  · exact .inl h'
  · exact .inr ⟨g, c, cur, rfl, h1, (hg.block g (h.lt g rfl).2 (hr g rfl)).trans h2, h3⟩
set_option maxHeartbeats 1000000 in
theorem markIntRow (n k : Nat) (o : Value) (b : Nat) (w : World) (xs : List Value) (hn : n ≤ 10000000) (hk : k ≤ 10000000) (hB : b ≤ w.heap.size) (ho : w.ownsRow b 3 1 o n xs) :
    Calls Try.prog 10 #[o, .int .i64 k] w fun e w' => e = .returned (.int .i64 ((k + n : Nat) : Int)) ∧ w'.ownsRow b 3 1 o n ((marksI k n).map iz) ∧ Below b w w' ∧ w.grownBy w' o.ownBlock := by
  have hxl : xs.length = n := by have := ho.1; omega
  obtain ⟨A, c, rfl, hA⟩ := rowi_form ho
  have HA := Lib.hid hA
  have HO := Lib.hid ho
  have HL := Lib.hid hxl
  clear hA ho hxl
  go_enter Try.func10, Try.ntmps10
  go_wp2_with fail
  go_loopw [1, 5] (fun q i wr => ∃ j : Nat, j ≤ n ∧ i = .int .i64 j ∧ q = .int .i64 ((k + j : Nat) : Int) ∧ wr.ownsRow b 3 1 (.slice A n c) n (markedI k xs j) ∧ Below b w wr ∧ w.grownBy wr (Value.slice A n c).ownBlock) (fun _ i _ => n - (intOf i).toNat)
  case atStart => exact ⟨0, Nat.zero_le _, rfl, rfl, HO.out, Below.refl _ _, grown_refl _ _⟩
  case round =>
    obtain ⟨j, hj, rfl, rfl, hown, hb, hgr⟩ := hrel
    have HG := Lib.hid hgr
    clear hgr
    by_cases hlt : j < n
    · obtain ⟨g, rfl⟩ := HA.out (by omega)
      have hst := markedI_step k xs j (by rw [HL.out]; exact hlt)
      have HST := Lib.hid hst
      have d0 : ∃ u, wr.cell? ⟨g, j, none⟩ = some u := ⟨_, (hown.cellAt j (by omega)).trans (List.getElem?_eq_getElem (by have := hown.1; omega))⟩
      obtain ⟨u0, d0⟩ := d0
      have k0 := hown.frozenAt j
      have hbg := (hown.lt g rfl).1
      have HO3 := Lib.hid hown
      clear hst hown
      go_wp2_with fail
      go_roundw
      case rel => exact ⟨j + 1, by omega, by go_num, by go_num, by rw [← HST.out]; exact (HO3.out.stored j _).1, hb.setCell hbg _, grown_trans HG.out (HO3.out.stored j _).2⟩
      case measure => simp [intOf]; omega
    · obtain rfl : j = n := by omega
      have hall := markedI_all k xs
      rw [HL.out] at hall
      rw [hall] at hown
      go_wp2_with fail
      go_ret
      exact ⟨rfl, hown, hb, HG.out⟩

end Go.Proofs.Ytmfogabkpeoagaa
