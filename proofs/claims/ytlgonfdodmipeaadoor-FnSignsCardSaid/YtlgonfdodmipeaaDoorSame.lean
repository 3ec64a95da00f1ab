/-
  What the drawn laws call: bytes that came in; whether they are many; rows of numbers that are the same.
-/
import Derived.Test.YtlgonfdodmipeaaDoorDraw3
import Derived.Test.YtlgonfdodmipeaaDoorSignsS
namespace Go.Proofs.YtlgonfdodmipeaaDoor
open Go.RowKit
set_option linter.unusedVariables false
set_option linter.unusedSimpArgs false
set_option maxRecDepth 100000

theorem bytes_of : ∀ (l : List Int), (∀ z ∈ l, (Lit.int .u8 z).wf = true) → ∃ code : List UInt8, code.length = l.length ∧ l.map (Value.int .u8) = code.map bv
  | [], _ => ⟨[], rfl, rfl⟩
  | z :: l, h => by
    obtain ⟨code, h1, h2⟩ := bytes_of l (fun x hx => h x (List.mem_cons_of_mem _ hx))
    have hz := h z List.mem_cons_self
    have hr : 0 ≤ z ∧ z ≤ 255 := by simpa [Lit.wf, IntKind.min, IntKind.max, IntKind.signed, IntKind.bits] using hz
    refine ⟨UInt8.ofNat z.toNat :: code, by simp [h1], ?_⟩
    rw [List.map_cons, List.map_cons, h2]
    congr 1
    unfold bv
    congr 1
    rw [UInt8.toNat_ofNat']
    omega
theorem lawBig (A : Option Addr) (n c : Nat) (w : World) (h : n ≤ 1048576) : Calls Tryd.prog 9 #[.slice A n c] w fun e w' => e = .returned (.bool false) ∧ w' = w := by
  have h2 : ¬ (1048576 : Int) < (n : Int) := by omega
  go_enter Tryd.func9, Tryd.ntmps9
  go_wp2_with fail
  go_ret
  exact ⟨rfl, rfl⟩
theorem lawBigY (A : Option Addr) (n c : Nat) (w : World) (h : 1048576 < n) : Calls Tryd.prog 9 #[.slice A n c] w fun e w' => e = .returned (.bool true) ∧ w' = w := by
  have h2 : (1048576 : Int) < (n : Int) := by omega
  go_enter Tryd.func9, Tryd.ntmps9
  go_wp2_with fail
  go_ret
  exact ⟨rfl, rfl⟩
theorem row_of {w : World} {base : Nat} {e : TypeId} {o : Value} {n : Nat} {xs : List Value} (h : w.ownsRow base e 1 o n xs) : ∃ A c, o = .slice A n c := by
  rcases h.2 with ⟨rfl, rfl⟩ | ⟨g, c, cur, rfl, _⟩
  · exact ⟨none, 0, rfl⟩
  · exact ⟨_, _, rfl⟩
set_option maxHeartbeats 1000000 in
theorem lawSameInts (l : List Nat) (A B : Option Addr) (c d : Nat) (w : World) (hn : l.length ≤ 10000000) (ho : At1 w w.heap.size A (l.map iv)) (hp : At1 w w.heap.size B (l.map iv)) :
    Calls Tryd.prog 21 #[.slice A l.length c, .slice B l.length d] w fun e w' => e = .returned (.bool true) ∧ Below w.heap.size w w' := by
  have HO := Lib.hid ho
  have HP := Lib.hid hp
  clear ho hp
  go_enter Tryd.func21, Tryd.ntmps21
  go_wp2_with fail
  go_loopw [5] (fun i wr => ∃ j : Nat, j ≤ l.length ∧ i = .int .i64 j ∧ Below w.heap.size w wr) (fun i _ => l.length - (intOf i).toNat)
  case atStart => exact ⟨0, Nat.zero_le _, rfl, Below.refl _ _⟩
  case round =>
    obtain ⟨j, hj, rfl, hb⟩ := hrel
    by_cases hlt : j < l.length
    · obtain ⟨g, off, rfl, _, c0⟩ := (HO.out.below hb (Nat.le_refl _)).get (j := j) (by simpa using hlt)
      obtain ⟨g', off', rfl, _, d0⟩ := (HP.out.below hb (Nat.le_refl _)).get (j := j) (by simpa using hlt)
      rw [List.getElem_map] at c0 d0
      unfold iv at c0 d0
      go_wp2_with fail
      go_quiet (fail)
      go_wp2_with fail
      go_roundw
      case rel => exact ⟨j + 1, by omega, by go_num, below_drewN hb _⟩
      case measure => simp [intOf]; omega
    · obtain rfl : j = l.length := by omega
      go_wp2_with fail
      go_ret
      exact ⟨rfl, hb⟩
end Go.Proofs.YtlgonfdodmipeaaDoor
