/-
  Steps that are a path's, and the path's text of the program.
-/
import Derived.Test.YtlgonfdodmipeaaDoorPathP
import Derived.Test.YtlgonfdodmipeaaDoorAt1
import Derived.Test.YtlgonfdodmipeaaDoorSigns
import Derived.Test.YtlgonfdodmipeaaDoorBld
import Derived.Test.YtlgonfdodmipeaaDoorShelfR
namespace Go.Proofs.YtlgonfdodmipeaaDoor
open Go.RowKit
set_option linter.unusedVariables false
set_option linter.unusedSimpArgs false
set_option maxRecDepth 100000

/-- A step is right. -/
def stepOk (s : ByteArray) : Bool := decide (s.size ≤ 2000) && textOk s
/-- Steps are a path's. -/
def stepsOk (l : List ByteArray) : Bool := decide (l.length ≤ 12) && l.all stepOk
/-- The path of some steps. -/
def pathS (l : List ByteArray) : List UInt8 := pathL (l.map fun s => s.data.toList)
/-- PutPath. -/
def pathB (l : List ByteArray) : List UInt8 := if stepsOk l = true then pathS l else []
theorem pathS_snoc (l : List ByteArray) (s : ByteArray) : pathS (l ++ [s]) = pathS l ++ (47 :: escS s.data.toList) := by simp [pathS, pathL]
theorem pathS_step (l : List ByteArray) (j : Nat) (h : j < l.length) : pathS (l.take (j + 1)) = pathS (l.take j) ++ (47 :: escS (l[j]).data.toList) := by
  rw [List.take_succ_eq_append_getElem h, pathS_snoc]
theorem escS_len (l : List UInt8) : (escS l).length ≤ 2 * l.length := by
  induction l with
  | nil => simp [escS]
  | cons b l ih =>
    have : (escP b).length ≤ 2 := by
      unfold escP
      split
      · simp
      · split <;> simp
    simp only [escS, List.flatMap_cons, List.length_append, List.length_cons] at *
    omega
theorem pathS_len : ∀ l : List ByteArray, (∀ s ∈ l, s.size ≤ 2000) → (pathS l).length ≤ 4001 * l.length
  | [], _ => by simp [pathS, pathL]
  | s :: l, h => by
    have ih := pathS_len l (fun x hx => h x (by simp [hx]))
    have h1 := h s (by simp)
    have h2 := escS_len s.data.toList
    have h3 : s.data.toList.length = s.size := rfl
    simp only [pathS, pathL, List.map_cons, List.flatMap_cons, List.length_append, List.length_cons] at *
    omega
theorem all_take {l : List ByteArray} {j : Nat} (hj : j < l.length) : ((l.take (j + 1)).all stepOk) = ((l.take j).all stepOk && stepOk l[j]) := by
  rw [List.take_succ_eq_append_getElem hj, List.all_append]; simp

set_option maxHeartbeats 1000000 in
theorem implStep1 (s : ByteArray) (w : World) (hs : s.size ≤ 1048576) (hT : Tabs w) :
    Calls Tryd.prog 61 #[.string s] w fun e w' => e = .returned (.bool (!stepOk s)) ∧ Below w.heap.size w w' := by
  by_cases h : s.size ≤ 2000
  · have q : ¬ (2000 : Int) < (s.size : Int) := by omega
    have HS : Hid (stepOk s = textOk s) := Lib.hid (by unfold stepOk; rw [decide_eq_true h]; rfl)
    have HT := Lib.hid hT
    clear h hT
    go_enter Tryd.func61, Tryd.ntmps61
    go_wp2_with fail
    refine (implTextOk s w hs HT.out).mono ?_
    rintro e w1 ⟨rfl, hb1⟩
    go_wp2_with fail
    go_ret
    exact ⟨by rw [HS.out]; rfl, hb1⟩
  · have q : (2000 : Int) < (s.size : Int) := by omega
    have HS : Hid (stepOk s = false) := Lib.hid (by unfold stepOk; rw [decide_eq_false h]; rfl)
    clear h
    go_enter Tryd.func61, Tryd.ntmps61
    go_wp2_with fail
    go_ret
    exact ⟨by rw [HS.out]; rfl, Below.refl _ _⟩
theorem stepEnters : ∀ (args : Array Value) (w : World), (callFunc 61 args).run Tryd.prog w = .ok (.enter 61 args) w :=
  enters_of Tryd.func61 (by kernel_rfl) rfl
set_option maxHeartbeats 2000000 in
theorem implSteps_index (l : List ByteArray) (A : Option Addr) (cap : Nat) (w : World) (hl : l.length ≤ 1048576) (hs : ∀ s ∈ l, s.size ≤ 1048576) (hT : Tabs w) (hat : At1 w w.heap.size A (l.map Value.string)) :
    Calls Tryd.prog 69 #[.slice A l.length cap, .func (Fn.func 61) #[] #[]] w fun e w' =>
      (∃ r : Int, e = .returned (.int .i64 r) ∧ decide (0 ≤ r) = !l.all stepOk) ∧ Below w.heap.size w w' := by
  have HA := Lib.hid hat
  have HT := Lib.hid hT
  have HS := Lib.hid (fun (j : Nat) (h : j < l.length) (W : World) (hT : Tabs W) => implStep1 l[j] W (hs _ (List.getElem_mem h)) hT)
  have hE := stepEnters
  clear hat hT hs
  go_enter Tryd.func69, Tryd.ntmps69
  go_wp2_with fail
  go_loopw [8] (fun i wr => ∃ j : Nat, j ≤ l.length ∧ i = .int .i64 j ∧ (l.take j).all stepOk = true ∧ Below w.heap.size w wr) (fun i _ => l.length - (intOf i).toNat)
  case atStart => exact ⟨0, Nat.zero_le _, rfl, rfl, Below.refl _ _⟩
  case round =>
    obtain ⟨j, hj, rfl, hok, hb⟩ := hrel
    have HOK := Lib.hid hok
    clear hok
    by_cases hlt : j < l.length
    · obtain ⟨b, off, rfl, hbl, hc⟩ := (HA.out.below hb (Nat.le_refl _)).get (j := j) (by simpa using hlt)
      rw [List.getElem_map] at hc
      go_wp2_with fail
      refine (HS.out j hlt wr (HT.out.below hb)).mono ?_
      rintro e w1 ⟨rfl, hb1⟩
      have b1 := hb.trans (hb1.mono hb.size)
      clear hb hb1 hc
      cases hst : stepOk l[j] with
      | true =>
        have HN : Hid ((l.take (j + 1)).all stepOk = true) := Lib.hid (by rw [all_take hlt, HOK.out, hst]; rfl)
        clear hst
        go_wp2_with fail
        go_roundw
        case rel => exact ⟨j + 1, by omega, by go_num, HN.out, b1⟩
        case measure => simp [intOf]; omega
      | false =>
        have HN : Hid (l.all stepOk = false) := Lib.hid (List.all_eq_false.2 ⟨l[j], List.getElem_mem hlt, by rw [hst]; simp⟩)
        clear hst
        go_wp2_with fail
        go_ret
        exact ⟨⟨_, rfl, by simp [HN.out]⟩, b1⟩
    · obtain rfl : j = l.length := by omega
      have HN : Hid (l.all stepOk = true) := Lib.hid (by have := HOK.out; rwa [List.take_length] at this)
      go_wp2_with fail
      go_ret
      exact ⟨⟨_, rfl, by simp [HN.out]⟩, hb⟩
set_option maxHeartbeats 1000000 in
theorem implAre (l : List ByteArray) (A : Option Addr) (cap : Nat) (w : World) (hl : l.length ≤ 1048576) (hs : ∀ s ∈ l, s.size ≤ 1048576) (hT : Tabs w) (hat : At1 w w.heap.size A (l.map Value.string)) :
    Calls Tryd.prog 47 #[.slice A l.length cap] w fun e w' => e = .returned (.bool (stepsOk l)) ∧ Below w.heap.size w w' := by
  by_cases h : l.length ≤ 12
  · have q : (l.length : Int) ≤ 12 := by omega
    have HS : Hid (stepsOk l = l.all stepOk) := Lib.hid (by unfold stepsOk; rw [decide_eq_true h]; rfl)
    have HI := Lib.hid (implSteps_index l A cap w hl hs hT hat)
    clear h hT hs hat
    go_enter Tryd.func47, Tryd.ntmps47
    go_wp2_with (go_at_call 60; go_in)
    refine HI.out.mono ?_
    rintro e w1 ⟨⟨r, rfl, hr⟩, hb1⟩
    have HR := Lib.hid hr
    clear hr
    go_wp2_with fail
    all_goals go_ret
    all_goals refine ⟨ret_bool ?_, hb1⟩
    all_goals rw [HS.out]
    all_goals have h := HR.out
    all_goals cases hx : l.all stepOk <;> simp_all
  · have q : ¬ (l.length : Int) ≤ 12 := by omega
    have HS : Hid (stepsOk l = false) := Lib.hid (by unfold stepsOk; rw [decide_eq_false h]; rfl)
    clear h
    go_enter Tryd.func47, Tryd.ntmps47
    go_wp2_with fail
    go_ret
    exact ⟨ret_bool HS.out.symm, Below.refl _ _⟩
end Go.Proofs.YtlgonfdodmipeaaDoor
