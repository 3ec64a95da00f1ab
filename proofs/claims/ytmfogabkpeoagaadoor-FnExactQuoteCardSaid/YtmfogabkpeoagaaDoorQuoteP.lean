/-
  A text in its quotes, plainly.
-/
import Derived.Test.YtmfogabkpeoagaaDoorShort
import Derived.Test.YtmfogabkpeoagaaDoorRunes
namespace Go.Proofs.YtmfogabkpeoagaaDoor
open Go.RowKit
set_option linter.unusedVariables false

/-- What stands for a byte. -/
def escL (b : UInt8) : List UInt8 := if shortOf b.toNat ≠ 0 then [92, UInt8.ofNat (shortOf b.toNat)] else if b.toNat < 32 then [92, 117, 48, 48] ++ hexOf [b] else [b]
/-- What has been written behind j bytes. -/
def qTo (s : ByteArray) (j : Nat) : List UInt8 := 34 :: (s.data.toList.take j).flatMap escL
def quoteB (s : ByteArray) : ByteArray := if textOk s then str (qTo s s.size ++ [34]) else ⟨#[]⟩
theorem escL_len (b : UInt8) : (escL b).length ≤ 6 := by unfold escL; repeat' split
                                                         all_goals simp [hexOf]
theorem qTo_len (s : ByteArray) (j : Nat) : (qTo s j).length ≤ 6 * j + 1 := by
  have : ∀ l : List UInt8, (l.flatMap escL).length ≤ 6 * l.length := by
    intro l
    induction l with
    | nil => simp
    | cons b l ih => simp only [List.flatMap_cons, List.length_append, List.length_cons]; have := escL_len b; omega
  have h1 := this (s.data.toList.take j)
  have h2 := List.length_take_le j s.data.toList
  unfold qTo
  simp only [List.length_cons]
  omega
theorem qTo_step (s : ByteArray) (j : Nat) (h : j < s.size) : qTo s (j + 1) = qTo s j ++ escL s[j] := by
  unfold qTo
  rw [take_snoc s j h]
  simp
theorem shortOf_lt (b : Nat) : shortOf b < 256 := by unfold shortOf; repeat' split
                                                     all_goals omega
theorem escL_short {b : UInt8} (h : shortOf b.toNat ≠ 0) : (escL b).map bv = [.int .u8 92, .int .u8 (shortOf b.toNat : Int)] := by
  have := shortOf_lt b.toNat
  unfold escL
  rw [if_pos h]
  simp only [List.map_cons, List.map_nil, bv, UInt8.toNat_ofNat']
  rw [Nat.mod_eq_of_lt (by simpa using this)]
  rfl
theorem escL_low {b : UInt8} (h : shortOf b.toNat = 0) (h2 : b.toNat < 32) : escL b = [92, 117, 48, 48] ++ hexOf [b] := by
  unfold escL; rw [if_neg (by simpa using h), if_pos h2]
theorem escL_own {b : UInt8} (h : shortOf b.toNat = 0) (h2 : ¬ b.toNat < 32) : escL b = [b] := by
  unfold escL; rw [if_neg (by simpa using h), if_neg h2]

/-- What holds in both loops. -/
def QRel (s : ByteArray) (w : World) (o i : Value) (wr : World) : Prop :=
  ∃ j : Nat, j ≤ s.size ∧ i = .int .i64 j ∧ wr.ownsRow w.heap.size 5 1 o (qTo s j).length ((qTo s j).map bv) ∧ Below w.heap.size w wr
theorem q_next {s : ByteArray} {w w' : World} {j n : Nat} {v : Value} {xs : List Value} (hj : j < s.size) (hn : n = (qTo s j).length + (escL s[j]).length) (hx : xs = (qTo s j).map bv ++ (escL s[j]).map bv)
    (hown : w'.ownsRow w.heap.size 5 1 v n xs) (hb : Below w.heap.size w w') : QRel s w v (.int .i64 ((j : Int) + 1)) w' := by
  subst hn hx
  refine ⟨j + 1, by omega, by go_num, ?_, hb⟩
  rw [qTo_step s j hj, List.length_append, List.map_append]
  exact hown
end Go.Proofs.YtmfogabkpeoagaaDoor
