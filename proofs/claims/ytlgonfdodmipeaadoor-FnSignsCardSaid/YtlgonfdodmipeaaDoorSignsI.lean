/-
  Signs of the program.
-/
import Derived.Test.YtlgonfdodmipeaaDoorSigns
import Derived.Test.YtlgonfdodmipeaaDoorGetSignI
import Derived.Lib.OthersKept
namespace Go.Proofs.YtlgonfdodmipeaaDoor
open Go.RowKit
set_option linter.unusedVariables false

/-- A row in another block than the iterator's is as it was when the iterator moves on. -/
theorem own_iterAt {w : World} {base e size n k : Nat} {v : Value} {xs : List Value} {s : ByteArray} {p : Nat} (h : w.ownsRow base e size v n xs) (hk : v.ownBlock ≠ some k) : (w.iterAt k s p).ownsRow base e size v n xs :=
  h.kept (row := some k) ⟨rfl, rfl, rfl, by rw [Lib.iterAt_size]; exact Nat.le_refl _, fun j _ hj => Lib.iterAt_other w k j s p (fun e => hj (by rw [e]))⟩ (by
    rcases h.2 with ⟨rfl, _⟩ | ⟨g, c, cur, rfl, _⟩
    · exact .inl rfl
    · exact .inr hk)
/-- What holds in the loop: k is the iterator's block. -/
def SiRel (s : ByteArray) (w : World) (k : Nat) (o : Value) (wr : World) : Prop :=
  ∃ (j : Nat) (pre : List Nat), ReadTo s j pre ∧ wr.heap[k]? = some (.stringIter s j) ∧ wr.ownsRow w.heap.size 3 1 o pre.length (pre.map iv) ∧ o.ownBlock ≠ some k ∧ Below w.heap.size w wr

theorem si_next {s : ByteArray} {w wr w' : World} {j k : Nat} {pre : List Nat} {v v' : Value} (h : ReadTo s j pre) (hj : j < s.size) (hok : gsOk s (j : Int)) (hk : w.heap.size ≤ k)
    (hit : wr.heap[k]? = some (.stringIter s j)) (hv : v.ownBlock ≠ some k) (hb : Below w.heap.size w wr) (hlow : ∀ g, v.ownBlock = some g → w.heap.size ≤ g) (o : Obj)
    (hown : w'.ownsRow w.heap.size 3 1 v' (pre.length + 1) (pre.map iv ++ [.int .i64 ((Utf8.decode s j).1 : Int)]))
    (hg : ((wr.iterAt k s (j + (Utf8.decode s j).2)).alloc o).grownBy w' v.ownBlock) (hv' : v'.ownBlock = v.ownBlock ∨ v'.ownBlock = some ((wr.iterAt k s (j + (Utf8.decode s j).2)).alloc o).heap.size) : SiRel s w k v' w' ∧ w'.iterPos k = j + (Utf8.decode s j).2 := by
  have hkl : k < wr.heap.size := (Array.getElem?_eq_some_iff.1 hit).1
  have hsz : ((wr.iterAt k s (j + (Utf8.decode s j).2)).alloc o).heap.size = wr.heap.size + 1 := by simp [Lib.iterAt_size]
  have hit2 : w'.heap[k]? = some (.stringIter s (j + (Utf8.decode s j).2)) := by
    rw [hg.block k (by omega) (fun e => hv e.symm), Below.heap_alloc _ _ k (by rw [Lib.iterAt_size]; exact hkl)]
    exact Lib.iterAt_heap _ _ _ _ _ hit
  refine ⟨⟨_, _, readTo_next h hj hok, hit2, by simpa [iv] using hown, ?_, ?_⟩, by simp [World.iterPos, hit2]⟩
  · rcases hv' with e | e
    · rw [e]; exact hv
    · rw [e, hsz]; intro e; injection e; omega
  · have h1 := Below.alloc (Lib.below_iterAt hb hk s (j + (Utf8.decode s j).2)) (by rw [Lib.iterAt_size]; exact hb.size) o
    exact h1.grown hg h1.size hlow

theorem below_iter {B : Nat} {a w : World} (h : Below B a w) (hB : B ≤ w.heap.size) (s : ByteArray) (p : Nat) : Below B a (w.iter s p) :=
  h.alloc hB (.stringIter s p)
set_option maxHeartbeats 1000000 in
theorem implSigns (s : ByteArray) (w : World) (hs : s.size ≤ 1048576) (hT : Tabs w) :
    Calls Tryd.prog 17 #[.string s] w fun e w' => ∃ o, e = .returned o ∧ w'.ownsRow w.heap.size 3 1 o (signsL s).length ((signsL s).map iv) ∧ Below w.heap.size w w' := by
  cases hok0 : textOk s with
  | false =>
    have HE := Lib.hid (show signsL s = [] by
      unfold textOk at hok0
      unfold signsL
      cases hr : restF s 0 with
      | none => rfl
      | some l => rw [hr] at hok0; cases hok0)
    have HO := Lib.hid hok0
    clear hok0
    go_enter Tryd.func17, Tryd.ntmps17
    go_wp2_with fail
    refine (implTextOk s w hs hT).mono ?_
    rintro e w1 ⟨rfl, hb1⟩
    rw [HO.out]
    go_wp2_with fail
    go_ret
    refine ⟨_, rfl, ?_, hb1⟩
    rw [HE.out]
    exact World.ownsRow_nil _ _ _ _
  | true =>
    have HO := Lib.hid hok0
    clear hok0
    go_enter Tryd.func17, Tryd.ntmps17
    go_wp2_with fail
    refine (implTextOk s w hs hT).mono ?_
    rintro e w1 ⟨rfl, hb1⟩
    rw [HO.out]
    have hsz1 := hb1.size
    go_wp2_with fail
    go_loopw [3] (fun o wr => SiRel s w (w1.heap.size + 1) o wr) (fun _ wr => s.size - wr.iterPos (w1.heap.size + 1))
    case atStart =>
      refine ⟨0, [], readTo_zero s, ?_, ?_, by simp [Value.ownBlock], ?_⟩
      · have := World.iter_heap (w1.alloc (.cells #[] 3)) s 0
        simpa using this
      · exact own_below' (own_empty' (w := w1) 3 1 hsz1) (B := (w1.alloc (.cells #[] 3)).heap.size) (Nat.le_refl _) (below_iter (Below.refl _ _) (Nat.le_refl _) s 0)
      · exact below_iter (hb1.alloc hsz1 _) (by simp; omega) s 0
    case round =>
      obtain ⟨j, pre, hr, hit, hown, hnk, hb⟩ := hrel
      have hle := hr.1
      have hpl := hr.2.1
      have HR := Lib.hid hr
      have hkl : w1.heap.size + 1 < wr.heap.size := (Array.getElem?_eq_some_iff.1 hit).1
      clear hr
      by_cases hlt : j < s.size
      · have hnx : ∀ ty, (Instr.next (.pointer (some ⟨w1.heap.size + 1, 0, none⟩)) true ty).run Tryd.prog wr = _ := fun ty => Lib.run_next_any_at wr (w1.heap.size + 1) s j ty hit hlt
        have hok : gsOk s (j : Int) := Classical.byContradiction fun h => by
          have := (readTo_bad HR.out hlt h).2
          rw [HO.out] at this
          cases this
        have hown2 := own_iterAt (s := s) (p := j + (Utf8.decode s j).2) hown hnk
        have HIT := Lib.hid hit
        have hdw := dec_w s j
        have HSZ := Lib.hid (Lib.iterAt_size wr (w1.heap.size + 1) s (j + (Utf8.decode s j).2))
        have hszB : w.heap.size ≤ (wr.iterAt (w1.heap.size + 1) s (j + (Utf8.decode s j).2)).heap.size := by rw [HSZ.out]; omega
        have hlow : Hid (∀ g, u3.ownBlock = some g → w.heap.size ≤ g) := fun g hg => (hown.lt g hg).1
        clear hit hown
        go_wp2_with (at_builtin; refine wpList_app2 rfl (.tmp 15) (.tmp 18) 33 rfl w.heap.size 3 Tryd.underlying33 infoI rfl (by decide) rfl (hown2.alloc _) (Nat.le_trans hszB (by simp)) _ 1 1 _ rfl rfl (cells_new _ _ _) (one_iv _) (by unfold maxLen; omega) (by omega) ?_; intro v' w' hown' hg' hv')
        have HS := Lib.hid (si_next HR.out hlt hok (by omega) HIT.out hnk hb hlow _ hown' hg' hv')
        go_roundw
        case rel => exact HS.out.1
        case measure => rw [HS.out.2]; simp [World.iterPos, HIT.out]; omega
      · have hnx : ∀ ty, (Instr.next (.pointer (some ⟨w1.heap.size + 1, 0, none⟩)) true ty).run Tryd.prog wr = _ := fun ty => Lib.run_next_end_at wr (w1.heap.size + 1) s j ty hit hlt
        have HE := Lib.hid (readTo_end HR.out hlt)
        clear hit
        go_wp2_with fail
        go_ret
        refine ⟨_, rfl, ?_, hb⟩
        rw [HE.out.1]
        exact hown
end Go.Proofs.YtlgonfdodmipeaaDoor
