/-
  Signs and TextOk of the reference.
-/
import Derived.Test.YtlgonfdodmipeaaDoorRunes
import Derived.Test.YtlgonfdodmipeaaDoorGetSign
namespace Go.Proofs.YtlgonfdodmipeaaDoor
open Go.RowKit
set_option linter.unusedVariables false

/-- A number as a value. -/
def iv (n : Nat) : Value := .int .i64 (n : Int)
theorem one_iv (n : Int) : ∀ u ∈ #[Value.int .i64 n].toList, u.oneCell' = true := by
  intro u hu; simp at hu; subst hu; rfl
theorem infoI : (Tryd.prog.info? 3).map (fun i => (i.zero, i.size, i.bytes)) = some (some (.int .i64 0), 1, 8) := by kernel_rfl
/-- What holds in the loop. -/
def SgRel (s : ByteArray) (w : World) (o i : Value) (wr : World) : Prop :=
  ∃ (j : Nat) (pre : List Nat), ReadTo s j pre ∧ i = .int .i64 j ∧ wr.ownsRow w.heap.size 3 1 o pre.length (pre.map iv) ∧ Below w.heap.size w wr

theorem sg_next {s : ByteArray} {w w' : World} {j : Nat} {pre : List Nat} {v : Value} (h : ReadTo s j pre) (hj : j < s.size) (hok : gsOk s (j : Int)) {a b : Int} (ha : a = (Utf8.decode s j).1) (hb : b = (j : Int) + (Utf8.decode s j).2)
    (hown : w'.ownsRow w.heap.size 3 1 v (pre.length + 1) (pre.map iv ++ [.int .i64 a])) (hbl : Below w.heap.size w w') : SgRel s w v (.int .i64 b) w' := by
  subst ha hb
  exact ⟨_, _, readTo_next h hj hok, by simp, by simpa [iv] using hown, hbl⟩

set_option maxHeartbeats 1000000 in
theorem specSigns (s : ByteArray) (w : World) (hs : s.size ≤ 1048576) :
    Calls Tryd.prog 22 #[.string s] w fun e w' => ∃ o, e = .returned o ∧ w'.ownsRow w.heap.size 3 1 o (signsL s).length ((signsL s).map iv) ∧ Below w.heap.size w w' := by
  go_enter Tryd.func22, Tryd.ntmps22
  go_wp2_with fail
  go_loopw [3, 4] (fun o i wr => SgRel s w o i wr) (fun _ i _ => s.size - (intOf i).toNat)
  case atStart => exact ⟨0, [], readTo_zero s, rfl, own_empty w _ _, (Below.refl _ _).alloc (Nat.le_refl _) _⟩
  case round =>
    obtain ⟨j, pre, hr, rfl, hown, hb⟩ := hrel
    have hle := hr.1
    have hpl := hr.2.1
    have HR := Lib.hid hr
    clear hr
    by_cases hlt : j < s.size
    · by_cases hok : gsOk s (j : Int)
      · have HY := Lib.hid (gs_yes' hok)
        have hp := dec_w s j
        go_wp2_with fail
        refine (specGetSign s j _ hs ⟨by omega, by omega⟩).mono ?_
        rintro e w1 ⟨rfl, hb1⟩
        have hown1 := own_below hown hb1
        have hbw := hb.trans (hb1.mono hb.size)
        have hg : gsE s (j : Int) = (j : Int) + (Utf8.decode s j).2 := HY.out.2
        have hpos : decide (gsE s (j : Int) < 0) = false := by rw [hg]; simp; omega
        have hpos2 : ¬ gsE s (j : Int) < 0 := by omega
        have HG := Lib.hid hg
        clear hg hown hb hb1
        go_wp2_with (at_builtin; refine wpList_app rfl (.tmp 21) (.tmp 23) 33 rfl w.heap.size 3 Tryd.underlying33 infoI rfl (by decide) (W := w) rfl (hown1.alloc _) (hbw.alloc hbw.size _) (Nat.le_trans hbw.size (by simp)) _ 1 1 _ rfl rfl (cells_new _ _ _) (one_iv _) (by unfold maxLen; omega) (by omega) ?_; intro v' w' hown' hb' hB')
        go_roundw
        case rel => exact sg_next HR.out hlt hok HY.out.1 HG.out hown' hb'
        case measure => have := HG.out; simp [intOf]; omega
      · have HN := Lib.hid (gs_no hok)
        have HE := Lib.hid (readTo_bad HR.out hlt hok)
        go_wp2_with fail
        refine (specGetSign s j _ hs ⟨by omega, by omega⟩).mono ?_
        rintro e w1 ⟨rfl, hb1⟩
        have hbw := hb.trans (hb1.mono hb.size)
        rw [HN.out.1, HN.out.2]
        go_wp2_with fail
        go_ret
        refine ⟨_, rfl, ?_, hbw.alloc hbw.size _⟩
        rw [HE.out.1]
        exact own_empty' _ _ hbw.size
    · have HE := Lib.hid (readTo_end HR.out hlt)
      go_wp2_with fail
      go_ret
      refine ⟨_, rfl, ?_, hb⟩
      rw [HE.out.1]
      exact hown

set_option maxHeartbeats 1000000 in
theorem specTextOk (s : ByteArray) (w : World) (hs : s.size ≤ 1048576) :
    Calls Tryd.prog 20 #[.string s] w fun e w' => e = .returned (.bool (textOk s)) ∧ Below w.heap.size w w' := by
  have HT := Lib.hid (textOk_signs s)
  by_cases h0 : s.size = 0
  · obtain rfl : s = ⟨#[]⟩ := by
      cases s with
      | mk d => cases d with
        | mk l => cases l with
          | nil => rfl
          | cons a l => simp [ByteArray.size] at h0
    go_enter Tryd.func20, Tryd.ntmps20
    go_wp2_with fail
    go_ret
    exact ⟨ret_eq (congrArg Value.bool (by rw [HT.out]; rfl)), Below.refl _ _⟩
  · have hne : s.toList.isEmpty = false := by
      rw [ByteArray.toList_eq]
      cases s with
      | mk d => cases d with
        | mk l => cases l with
          | nil => exact absurd rfl h0
          | cons a l => rfl
    have hz := signsL_len s
    have HE := Lib.hid (show textOk s = decide (0 < (signsL s).length) by rw [HT.out]; simp [h0])
    go_enter Tryd.func20, Tryd.ntmps20
    go_wp2_with fail
    refine (specSigns s w hs).mono ?_
    rintro e w1 ⟨o, rfl, hown, hb1⟩
    obtain ⟨A, c, rfl⟩ := own_slice hown
    clear hown
    go_wp2_with fail
    go_ret
    exact ⟨ret_eq (congrArg Value.bool (by rw [HE.out])), hb1⟩

end Go.Proofs.YtlgonfdodmipeaaDoor
