/-
  FnExactSorted returns true for every value that can be read; it reads as it did; no conditions.
-/
import Derived.Test.YtcjamnfboifjeaaDoorPLSortedg
import Derived.StillTailTactics
import Derived.Deep.RegionWith
import Derived.Test.YtcjamnfboifjeaaDoorCards
import Derived.Test.YtcjamnfboifjeaaDoorTie
import Derived.Lay
import Derived.LaidOnce
import Derived.SevenTiedAt
/-
  The laws' own measure of a value.
-/
namespace Go.Proofs.YtcjamnfboifjeaaDoor
open Go.RowKit
set_option linter.unusedVariables false
set_option maxRecDepth 100000

def SzSaid (v : V) : Prop := ∀ (A : Option Addr) (cap : Nat) (L : Int) (w : World), 0 ≤ L → L ≤ 1048576 → V.fits v → Vs.at_ w 0 w.heap.size v.kids A →
    Calls Tryd.prog 6 #[v.agg A cap, .int .i64 L] w fun e w' => e = .returned (.int .i64 (szR L v.weight)) ∧ Below w.heap.size w w'
def SzSSaid (l : List V) : Prop := ∀ (A : Option Addr) (cap : Nat) (L : Int) (w : World), 0 ≤ L → L ≤ 1048576 → l.length ≤ 9223372036854775807 → Vs.fits l → Vs.at_ w 0 w.heap.size l A →
    Calls Tryd.prog 44 #[.slice A l.length cap, .int .i64 L] w fun e w' => e = .returned (.int .i64 (szR L (Vs.weight l))) ∧ Below w.heap.size w w'

set_option maxHeartbeats 1000000 in
theorem sz_step (v : V) (hk : SzSSaid v.kids) : SzSaid v := by
  intro A cap L w h0 h1 hf hat
  rw [V.fits_eq] at hf
  obtain ⟨f1, f2, f3, _⟩ := hf
  have HW := Lib.hid (V.weight_eq v)
  have HK := fun (c : Nat) (L' : Int) (w' : World) (g0 : 0 ≤ L') (g1 : L' ≤ 1048576) (hat' : Vs.at_ w' 0 w'.heap.size v.kids A) => hk A c L' w' g0 g1 f2 f3 hat'
  have HC := Lib.hid HK
  clear HK hk
  unfold V.agg
  by_cases hs : (v.s.size : Int) ≤ L
  · go_enter Tryd.func6, Tryd.ntmps6
    go_wp2_with fail
    refine (HC.out _ _ _ (by omega) (by omega) (Vs.at_more (Nat.le_refl _) (by simp) _ _ (Vs.at_keep (fun p _ hp => World.cell?_alloc_lt _ _ _ hp) _ _ hat))).mono ?_
    rintro e w1 ⟨rfl, hb1⟩
    have hbw : Below w.heap.size w w1 := ((Below.refl _ w).alloc (Nat.le_refl _) _).trans (hb1.mono (by simp))
    by_cases hw : (Vs.weight v.kids : Int) ≤ L - v.s.size
    · have e1 : szR (L - v.s.size) (Vs.weight v.kids) = L - v.s.size - Vs.weight v.kids := by rw [szR, if_pos hw]
      rw [e1]
      go_wp2_with fail
      go_ret
      exact ⟨ret_eq (by rw [szR, if_pos (by rw [HW.out]; omega), HW.out]; go_num), hbw⟩
    · have e1 : szR (L - v.s.size) (Vs.weight v.kids) = -1 := by rw [szR, if_neg hw]
      rw [e1]
      go_wp2_with fail
      go_ret
      exact ⟨ret_eq (by rw [szR, if_neg (by rw [HW.out]; omega)]; rfl), hbw⟩
  · go_enter Tryd.func6, Tryd.ntmps6
    go_wp2_with fail
    go_ret
    exact ⟨ret_eq (by rw [szR, if_neg (by rw [HW.out]; omega)]; rfl), (Below.refl _ _).alloc (Nat.le_refl _) _⟩

set_option maxHeartbeats 1000000 in
theorem szS_step (l : List V) (hk : ∀ i (h : i < l.length), SzSaid l[i]) : SzSSaid l := by
  intro A cap L w h0 h1 hl hf hat
  have HK := fun (i : Nat) (h : i < l.length) (A' : Option Addr) (c : Nat) (L' : Int) (w' : World) (g0 : 0 ≤ L') (g1 : L' ≤ 1048576) (hat' : Vs.at_ w' 0 w'.heap.size (l[i]).kids A') => hk i h A' c L' w' g0 g1 (Vs.fits_get i h hf) hat'
  have HC := Lib.hid HK
  clear HK hk
  by_cases hs : (l.length : Int) ≤ L
  · go_enter Tryd.func44, Tryd.ntmps44
    go_wp2_with fail
    go_loopw [1, 5] (fun x i wr => ∃ j : Nat, j ≤ l.length ∧ i = .int .i64 j ∧ (Vs.weight (l.take j) : Int) + (l.length - j) ≤ L ∧ x = .int .i64 (L - Vs.weight (l.take j) - (l.length - j)) ∧ Below w.heap.size w wr)
      (fun _ i _ => l.length - (intOf i).toNat)
    case atStart => exact ⟨0, Nat.zero_le _, rfl, by simp [Vs.weight]; omega, by simp [Vs.weight], Below.refl _ _⟩
    case round =>
      obtain ⟨j, hj, rfl, hle, rfl, hb⟩ := hrel
      by_cases hlt : j < l.length
      · obtain ⟨b, off, A', cap', rfl, g1, g2, g3, ⟨c0, c1, c2, c3, c4⟩, g5⟩ := Vs.at_get j hlt (Vs.at_below hat hb (Nat.le_refl _))
        have hst := Vs.weight_step l j hlt
        have hwl := Vs.weight_len l (j + 1)
        have HST := Lib.hid hst
        clear hst
        go_wp2_with fail
        refine (HC.out j hlt A' cap' _ _ (by omega) (by omega) (Vs.at_more (Nat.le_refl _) hb.size _ _ g5)).mono ?_
        rintro e w1 ⟨rfl, hb1⟩
        have hbw : Below w.heap.size w w1 := hb.trans (hb1.mono hb.size)
        by_cases hw : ((l[j]).weight : Int) ≤ L - Vs.weight (l.take j) - (l.length - j)
        · have e1 : szR (L - Vs.weight (l.take j) - (l.length - j)) (l[j]).weight = L - Vs.weight (l.take j) - (l.length - j) - (l[j]).weight := by rw [szR, if_pos hw]
          rw [e1]
          clear e1 c0 c1 c2 c3 c4
          go_wp2_with fail
          go_roundw
          case rel => exact ⟨j + 1, by omega, by go_num, by rw [HST.out]; omega, by rw [HST.out]; go_num, hbw⟩
          case measure => simp [intOf]; omega
        · have e1 : szR (L - Vs.weight (l.take j) - (l.length - j)) (l[j]).weight = -1 := by rw [szR, if_neg hw]
          rw [e1]
          clear e1 c0 c1 c2 c3 c4
          go_wp2_with fail
          go_ret
          exact ⟨ret_eq (by rw [szR, if_neg (by have := HST.out; omega)]; rfl), hbw⟩
      · obtain rfl : j = l.length := by omega
        go_wp2_with fail
        go_ret
        exact ⟨ret_num (by rw [List.take_length] at *; rw [szR, if_pos (by omega)]; omega), hb⟩
  · have hll := Vs.len_le l
    go_enter Tryd.func44, Tryd.ntmps44
    go_wp2_with fail
    go_ret
    exact ⟨ret_eq (by rw [szR, if_neg (by omega)]; rfl), Below.refl _ _⟩

theorem sz_all : ∀ (N : Nat), (∀ l : List V, Vs.nodes l ≤ N → SzSSaid l) := by
  intro N
  induction N with
  | zero =>
    intro l h
    refine szS_step l fun i hi => ?_
    have h1 := Vs.nodes_get i hi
    have h2 := V.nodes_pos l[i]
    omega
  | succ N ih =>
    intro l h
    refine szS_step l fun i hi => sz_step _ (ih _ ?_)
    have h1 := Vs.nodes_get i hi
    rw [V.nodes_eq] at h1
    omega
/-- The measure of a value. -/
theorem szValue_any (v : V) : SzSaid v := sz_step v (sz_all _ _ (Nat.le_refl _))
end Go.Proofs.YtcjamnfboifjeaaDoor

/-
  A value of the laws turned into one of the program: the same tree, in new memory.
-/
namespace Go.Proofs.YtcjamnfboifjeaaDoor
open Go.RowKit
set_option linter.unusedVariables false
set_option maxRecDepth 100000
set_option linter.unusedSimpArgs false

def ToSaid (v : V) : Prop := ∀ (A : Option Addr) (cap : Nat) (w : World), v.nodes ≤ 1048577 → Vs.at_ w 0 w.heap.size v.kids A →
    Calls Tryd.prog 8 #[v.agg A cap] w fun e w' => ∃ A' c', e = .returned (v.agg A' c') ∧ v.kids.length ≤ c' ∧ Vs.at_ w' w.heap.size w'.heap.size v.kids A' ∧ Below w.heap.size w w'
def ToSSaid (l : List V) : Prop := ∀ (A : Option Addr) (cap : Nat) (w : World), l.length ≤ 1048576 → Vs.nodes l ≤ 1048576 → Vs.at_ w 0 w.heap.size l A →
    Calls Tryd.prog 47 #[.slice A l.length cap] w fun e w' => ∃ A' c', e = .returned (.slice A' l.length c') ∧ l.length ≤ c' ∧ Vs.at_ w' w.heap.size w'.heap.size l A' ∧ Below w.heap.size w w'

set_option maxHeartbeats 1000000 in
theorem to_step (v : V) (hk : ToSSaid v.kids) : ToSaid v := by
  intro A cap w hn hat
  rw [V.nodes_eq] at hn
  have hl : v.kids.length ≤ 1048576 := by have := Vs.len_nodes v.kids; omega
  have HK := fun (c : Nat) (w' : World) (hat' : Vs.at_ w' 0 w'.heap.size v.kids A) => hk A c w' hl (by omega) hat'
  have HC := Lib.hid HK
  clear HK hk
  unfold V.agg
  go_enter Tryd.func8, Tryd.ntmps8
  go_wp2_with fail
  refine (HC.out _ _ (Vs.at_more (Nat.le_refl _) (by simp; omega) _ _ (Vs.at_keep (fun p _ hp => by rw [World.cell?_alloc_lt _ _ _ (by simp; omega), World.cell?_alloc_lt _ _ _ (by simp; omega), World.cell?_alloc_lt _ _ _ hp]) _ _ hat))).mono ?_
  rintro e w1 ⟨A', c', rfl, hc', hat1, hb1⟩
  have B2 := (Blk.new ((w.alloc _).alloc _) _ _).below hb1 (by simp)
  have B1 := ((Blk.new (w.alloc _) _ _).alloc _).below hb1 (by simp)
  simp only [World.size_alloc] at B1 B2 hb1 hat1
  have c20 : w1.cell? ⟨w.heap.size + 1 + 1, 0, none⟩ = some (.int .i64 v.k) := B2.cell 0
  have c21 : w1.cell? ⟨w.heap.size + 1 + 1, 1, none⟩ = some (.int .i64 v.n) := B2.cell 1
  have c22 : w1.cell? ⟨w.heap.size + 1 + 1, 2, none⟩ = some (.int .i64 v.e) := B2.cell 2
  have c23 : w1.cell? ⟨w.heap.size + 1 + 1, 3, none⟩ = some (.string v.s) := B2.cell 3
  have c24 : w1.cell? ⟨w.heap.size + 1 + 1, 4, none⟩ = some (.slice none 0 0) := B2.cell 4
  have f24 := B2.frozen 4
  have c10 : w1.cell? ⟨w.heap.size + 1, 0, none⟩ = some (.int .i64 0) := B1.cell 0
  have c11 : w1.cell? ⟨w.heap.size + 1, 1, none⟩ = some (.int .i64 0) := B1.cell 1
  have c12 : w1.cell? ⟨w.heap.size + 1, 2, none⟩ = some (.int .i64 0) := B1.cell 2
  have c13 : w1.cell? ⟨w.heap.size + 1, 3, none⟩ = some (.string ⟨#[]⟩) := B1.cell 3
  have c14 : w1.cell? ⟨w.heap.size + 1, 4, none⟩ = some (.slice none 0 0) := B1.cell 4
  have f10 := B1.frozen 0
  have f11 := B1.frozen 1
  have f12 := B1.frozen 2
  have f13 := B1.frozen 3
  have f14 := B1.frozen 4
  clear B1 B2 hat
  have hbw : Below w.heap.size w w1 := ((((Below.refl _ w).alloc (Nat.le_refl _) _).alloc (by simp) _).alloc (by simp; omega) _).trans (hb1.mono (by omega))
  have hs1 : w.heap.size + 1 + 1 + 1 ≤ w1.heap.size := by have := hb1.size; simpa using this
  have HB := Lib.hid hbw
  have HA := Lib.hid hat1
  clear hbw hat1 hb1 HC
  go_wp2_with fail
  refine bodyPost_ret (v := .agg #[.int .i64 v.k, .int .i64 v.n, .int .i64 v.e, .string v.s, .slice A' v.kids.length c']) (by simp [results, Tryd.results8, go_sem, c20, c21, c22, c23, c10, c11, c12, c13, c14]) rfl ⟨A', c', rfl, hc', ?_, ?_⟩
  · simp only [World.size_setCell]
    exact Vs.at_more (by omega) (Nat.le_refl _) _ _ (Vs.at_set (Vs.at_set (Vs.at_set (Vs.at_set (Vs.at_set (Vs.at_set HA.out (.inl (by simp))) (.inl (by simp))) (.inl (by simp))) (.inl (by simp))) (.inl (by simp))) (.inl (by simp)))
  · exact ((((((HB.out.setCell (by simp; try omega) _).setCell (by simp; try omega) _).setCell (by simp; try omega) _).setCell (by simp; try omega) _).setCell (by simp; try omega) _).setCell (by simp; try omega) _)

/-- What the loop has laid: the first j elements. -/
def ToRel (l : List V) (w : World) (j : Nat) (wr : World) : Prop :=
  (∃ xs, wr.ownsRow w.heap.size 28 5 (.slice (some ⟨w.heap.size, 0, none⟩) l.length l.length) l.length xs) ∧ Below w.heap.size w wr ∧
  ∀ i (h : i < l.length), i < j → ∃ A' cap, (l[i]).kids.length ≤ cap ∧ CellsAt wr w.heap.size (0 + i * 5) l[i] A' cap ∧ Vs.at_ wr (w.heap.size + 1) wr.heap.size (l[i]).kids A'

theorem to_next {l : List V} {w wr w2 : World} {j : Nat} (hlt : j < l.length) (hb : Below w.heap.size w wr)
    (hrow : ∀ i (h : i < l.length), i < j → ∃ A' cap, (l[i]).kids.length ≤ cap ∧ CellsAt wr w.heap.size (0 + i * 5) l[i] A' cap ∧ Vs.at_ wr (w.heap.size + 1) wr.heap.size (l[i]).kids A')
    (hb2 : Below wr.heap.size wr w2) {xs : List Value} (hown : w2.ownsRow w.heap.size 28 5 (.slice (some ⟨w.heap.size, 0, none⟩) l.length l.length) l.length xs)
    {A2 : Option Addr} {c2 : Nat} (hat : Vs.at_ w2 wr.heap.size w2.heap.size (l[j]).kids A2) (hc : (l[j]).kids.length ≤ c2) {u0 u1 u2 u3 u4 : Value}
    (h0 : w2.cell? ⟨w.heap.size, j * 5, none⟩ = some u0) (h1 : w2.cell? ⟨w.heap.size, j * 5 + 1, none⟩ = some u1) (h2 : w2.cell? ⟨w.heap.size, j * 5 + 2, none⟩ = some u2) (h3 : w2.cell? ⟨w.heap.size, j * 5 + 3, none⟩ = some u3) (h4 : w2.cell? ⟨w.heap.size, j * 5 + 4, none⟩ = some u4) (hg : w.heap.size < wr.heap.size := by assumption) :
    ToRel l w (j + 1) (put5 w2 w.heap.size (j * 5) l[j] A2 c2) := by
  refine ⟨put5_own hown, put5_below (hb.trans (hb2.mono hb.size)) (Nat.le_refl _), fun i hi hij => ?_⟩
  rw [put5_size]
  have sub : ∀ (A : Option Addr) (k : List V) (lo hi : Nat), w.heap.size < lo → Vs.at_ w2 lo hi k A → Vs.at_ (put5 w2 w.heap.size (j * 5) l[j] A2 c2) lo hi k A := fun A k lo hi hl h =>
    Vs.at_keep (fun p hp _ => put5_other (.inl (by omega))) k A h
  by_cases he : i = j
  · subst he
    rw [Nat.zero_add]
    exact ⟨A2, c2, hc, put5_at h0 h1 h2 h3 h4, Vs.at_more (by omega) (Nat.le_refl _) _ _ (sub _ _ _ _ hg hat)⟩
  · obtain ⟨A', cap, r1, r2, r3⟩ := hrow i hi (by omega)
    have hlt2 : wr.heap.size ≤ w2.heap.size := hb2.size
    refine ⟨A', cap, r1, r2.keep fun q hq => ?_, sub _ _ _ _ (by omega) (Vs.at_more (Nat.le_refl _) hlt2 _ _ (Vs.at_below r3 hb2 (Nat.le_refl _)))⟩
    rw [put5_other (.inr (.inl (by show 0 + i * 5 + q < j * 5; omega)))]
    exact hb2.cell (p := ⟨w.heap.size, 0 + i * 5 + q, none⟩) hg

set_option maxHeartbeats 1000000 in
theorem toS_step (l : List V) (hk : ∀ i (h : i < l.length), ToSaid l[i]) : ToSSaid l := by
  intro A cap w hl hn hat
  have HK := fun (i : Nat) (h : i < l.length) (A' : Option Addr) (c : Nat) (w' : World) (hat' : Vs.at_ w' 0 w'.heap.size (l[i]).kids A') => hk i h A' c w' (by have := Vs.nodes_get i h; omega) hat'
  have HC := Lib.hid HK
  clear HK hk
  obtain ⟨i0, hi, hz0, hz1, hz2⟩ := info_parts infoV
  go_enter Tryd.func47, Tryd.ntmps47
  go_wp2_with (at_make; refine wpList_make_full _ rfl _ _ 26 rfl w.heap.size 28 i0 _ 5 Tryd.underlying26 hi hz0 hz1 _ _ _ _ l.length rfl rfl (by omega) (by omega) ?b1 ?b2 ?b3 ?_)
  case b1 => rw [hz2]; omega
  case b2 => unfold maxLen; omega
  case b3 => omega
  intro w1 hown1 hg1
  go_wp2_with fail
  go_loopw [4] (fun i wr => ∃ j : Nat, j ≤ l.length ∧ i = .int .i64 j ∧ ToRel l w j wr) (fun i _ => l.length - (intOf i).toNat)
  case atStart => exact ⟨0, Nat.zero_le _, rfl, ⟨_, hown1⟩, (Below.refl _ _).grown hg1 (Nat.le_refl _) (fun k h => by cases h), fun i h h' => absurd h' (by omega)⟩
  case round =>
    obtain ⟨j, hj, rfl, ⟨xs, hown⟩, hb, hrow⟩ := hrel
    have HR := Lib.hid hrow
    have hgr : w.heap.size < wr.heap.size := (hown.lt _ rfl).2
    clear hrow
    by_cases hlt : j < l.length
    · obtain ⟨b, off, A', cap', rfl, g1, g2, g3, ⟨c0, c1, c2, c3, c4⟩, g5⟩ := Vs.at_get j hlt (Vs.at_below hat hb (Nat.le_refl _))
      go_wp2_with fail
      refine (HC.out j hlt A' cap' _ (Vs.at_more (Nat.le_refl _) hb.size _ _ g5)).mono ?_
      rintro e w2 ⟨A2, c2', rfl, hc2, hat2, hb2⟩
      unfold V.agg
      have hown2 := own_below hown hb2
      have hxl := hown2.1
      have cq : ∀ q, q < 5 → ∃ u, w2.cell? ⟨w.heap.size, j * 5 + q, none⟩ = some u := fun q hq => ⟨_, (hown2.cellAt (j * 5 + q) (by omega)).trans (List.getElem?_eq_getElem (by omega))⟩
      obtain ⟨u0, d0⟩ := cq 0 (by omega)
      obtain ⟨u1, d1⟩ := cq 1 (by omega)
      obtain ⟨u2, d2⟩ := cq 2 (by omega)
      obtain ⟨u3, d3⟩ := cq 3 (by omega)
      obtain ⟨u4, d4⟩ := cq 4 (by omega)
      simp only [Nat.add_zero] at d0
      have k0 := hown2.frozenAt (j * 5)
      have k1 := hown2.frozenAt (j * 5 + 1)
      have k2 := hown2.frozenAt (j * 5 + 2)
      have k3 := hown2.frozenAt (j * 5 + 3)
      have k4 := hown2.frozenAt (j * 5 + 4)
      have HO := Lib.hid hown2
      have HA := Lib.hid hat2
      have HB2 := Lib.hid hb2
      clear c0 c1 c2 c3 c4 cq hxl hown2 hat2 hb2 hown
      go_wp2_with fail
      go_roundw
      case rel => exact ⟨j + 1, by omega, by go_num, to_next hlt hb HR.out HB2.out HO.out HA.out hc2 d0 d1 d2 d3 d4⟩
      case measure => simp [intOf]; omega
    · obtain rfl : j = l.length := by omega
      go_wp2_with fail
      go_ret
      refine ⟨_, _, rfl, Nat.le_refl _, Vs.at_of (Nat.le_refl _) (hown.lt _ rfl).2 l 0 fun i hi => ?_, hb⟩
      obtain ⟨A', cap, r1, r2, r3⟩ := HR.out i hi hi
      exact ⟨A', cap, r1, r2, Vs.at_more (Nat.le_succ _) (Nat.le_refl _) _ _ r3⟩

theorem to_all : ∀ (N : Nat), (∀ l : List V, Vs.nodes l ≤ N → ToSSaid l) := by
  intro N
  induction N with
  | zero =>
    intro l h
    refine toS_step l fun i hi => ?_
    have h1 := Vs.nodes_get i hi
    have h2 := V.nodes_pos l[i]
    omega
  | succ N ih =>
    intro l h
    refine toS_step l fun i hi => to_step _ (ih _ ?_)
    have h1 := Vs.nodes_get i hi
    rw [V.nodes_eq] at h1
    omega
theorem toValue_any (v : V) : ToSaid v := to_step v (to_all _ _ (Nat.le_refl _))
end Go.Proofs.YtcjamnfboifjeaaDoor

/-
  A value of the laws turned into one of the program: the same tree, in new memory, each row in a block of its own.
-/
namespace Go.Proofs.YtcjamnfboifjeaaDoor
open Go.RowKit
set_option linter.unusedVariables false
set_option linter.unusedSimpArgs false

def To2Said (v : V) : Prop := ∀ (A : Option Addr) (cap : Nat) (w : World), v.nodes ≤ 1048577 → Vs.at_ w 0 w.heap.size v.kids A →
    Calls Tryd.prog 8 #[v.agg A cap] w fun e w' => ∃ A' c' F, e = .returned (v.agg A' c') ∧ v.kids.length ≤ c' ∧ Vs.lies w' v.kids A' F ∧ F.Nodup ∧ (∀ c ∈ F, w.heap.size ≤ c) ∧ Below w.heap.size w w'
def To2SSaid (l : List V) : Prop := ∀ (A : Option Addr) (cap : Nat) (w : World), l.length ≤ 1048576 → Vs.nodes l ≤ 1048576 → Vs.at_ w 0 w.heap.size l A →
    Calls Tryd.prog 47 #[.slice A l.length cap] w fun e w' => ∃ A' c' F, e = .returned (.slice A' l.length c') ∧ l.length ≤ c' ∧ Vs.lies w' l A' F ∧ F.Nodup ∧ (∀ c ∈ F, w.heap.size ≤ c) ∧ Below w.heap.size w w'

set_option maxHeartbeats 1000000 in
theorem to2_step (v : V) (hk : To2SSaid v.kids) : To2Said v := by
  intro A cap w hn hat
  rw [V.nodes_eq] at hn
  have hl : v.kids.length ≤ 1048576 := by have := Vs.len_nodes v.kids; omega
  have HK := fun (c : Nat) (w' : World) (hat' : Vs.at_ w' 0 w'.heap.size v.kids A) => hk A c w' hl (by omega) hat'
  have HC := Lib.hid HK
  clear HK hk
  unfold V.agg
  go_enter Tryd.func8, Tryd.ntmps8
  go_wp2_with fail
  refine (HC.out _ _ (Vs.at_more (Nat.le_refl _) (by simp; omega) _ _ (Vs.at_keep (fun p _ hp => by rw [World.cell?_alloc_lt _ _ _ (by simp; omega), World.cell?_alloc_lt _ _ _ (by simp; omega), World.cell?_alloc_lt _ _ _ hp]) _ _ hat))).mono ?_
  rintro e w1 ⟨A', c', F, rfl, hc', hl1, hnd, hF, hb1⟩
  have B2 := (Blk.new ((w.alloc _).alloc _) _ _).below hb1 (by simp)
  have B1 := ((Blk.new (w.alloc _) _ _).alloc _).below hb1 (by simp)
  simp only [World.size_alloc] at B1 B2 hb1 hF
  have c20 : w1.cell? ⟨w.heap.size + 1 + 1, 0, none⟩ = some (.int .i64 v.k) := B2.cell 0
  have c21 : w1.cell? ⟨w.heap.size + 1 + 1, 1, none⟩ = some (.int .i64 v.n) := B2.cell 1
  have c22 : w1.cell? ⟨w.heap.size + 1 + 1, 2, none⟩ = some (.int .i64 v.e) := B2.cell 2
  have c23 : w1.cell? ⟨w.heap.size + 1 + 1, 3, none⟩ = some (.string v.s) := B2.cell 3
  have c24 : w1.cell? ⟨w.heap.size + 1 + 1, 4, none⟩ = some (.slice none 0 0) := B2.cell 4
  have f24 := B2.frozen 4
  have c10 : w1.cell? ⟨w.heap.size + 1, 0, none⟩ = some (.int .i64 0) := B1.cell 0
  have c11 : w1.cell? ⟨w.heap.size + 1, 1, none⟩ = some (.int .i64 0) := B1.cell 1
  have c12 : w1.cell? ⟨w.heap.size + 1, 2, none⟩ = some (.int .i64 0) := B1.cell 2
  have c13 : w1.cell? ⟨w.heap.size + 1, 3, none⟩ = some (.string ⟨#[]⟩) := B1.cell 3
  have c14 : w1.cell? ⟨w.heap.size + 1, 4, none⟩ = some (.slice none 0 0) := B1.cell 4
  have f10 := B1.frozen 0
  have f11 := B1.frozen 1
  have f12 := B1.frozen 2
  have f13 := B1.frozen 3
  have f14 := B1.frozen 4
  clear B1 B2 hat
  have hbw : Below w.heap.size w w1 := ((((Below.refl _ w).alloc (Nat.le_refl _) _).alloc (by simp) _).alloc (by simp; omega) _).trans (hb1.mono (by omega))
  have hs1 : w.heap.size + 1 + 1 + 1 ≤ w1.heap.size := by have := hb1.size; simpa using this
  have HB := Lib.hid hbw
  have HA := Lib.hid hl1
  have HND := Lib.hid hnd
  have HF := Lib.hid hF
  clear hbw hl1 hnd hF hb1 HC
  go_wp2_with fail
  refine bodyPost_ret (v := .agg #[.int .i64 v.k, .int .i64 v.n, .int .i64 v.e, .string v.s, .slice A' v.kids.length c']) (by simp [results, Tryd.results8, go_sem, c20, c21, c22, c23, c10, c11, c12, c13, c14]) rfl ⟨A', c', F, rfl, hc', Vs.lies_same HA.out ⟨by simp, fun c hc => ?_⟩, HND.out, fun c hc => by have := HF.out c hc; omega, ?_⟩
  · have hcn : c ≠ w.heap.size + 1 := by have := HF.out c hc; omega
    rw [Below.heap_setCell _ _ _ _ (by exact hcn), Below.heap_setCell _ _ _ _ (by exact hcn), Below.heap_setCell _ _ _ _ (by exact hcn), Below.heap_setCell _ _ _ _ (by exact hcn), Below.heap_setCell _ _ _ _ (by exact hcn), Below.heap_setCell _ _ _ _ (by intro e; have := HF.out c hc; simp at e; omega)]
  · exact ((((((HB.out.setCell (by simp; try omega) _).setCell (by simp; try omega) _).setCell (by simp; try omega) _).setCell (by simp; try omega) _).setCell (by simp; try omega) _).setCell (by simp; try omega) _)

/-- What the loop has laid: the first j elements. -/
def To2Rel (l : List V) (w : World) (j : Nat) (wr : World) : Prop :=
  (∃ xs, wr.ownsRow w.heap.size 28 5 (.slice (some ⟨w.heap.size, 0, none⟩) l.length l.length) l.length xs) ∧ Below w.heap.size w wr ∧
  ∃ G, Vs.cells wr w.heap.size 0 (l.take j) G ∧ G.Nodup ∧ ∀ c ∈ G, w.heap.size < c

theorem to2_next {l : List V} {w wr w2 : World} {j : Nat} (hlt : j < l.length) (hb : Below w.heap.size w wr)
    (hrow : ∃ G, Vs.cells wr w.heap.size 0 (l.take j) G ∧ G.Nodup ∧ ∀ c ∈ G, w.heap.size < c)
    (hb2 : Below wr.heap.size wr w2) {xs : List Value} (hown : w2.ownsRow w.heap.size 28 5 (.slice (some ⟨w.heap.size, 0, none⟩) l.length l.length) l.length xs)
    {A2 : Option Addr} {c2 : Nat} {F : List Nat} (hl2 : Vs.lies w2 (l[j]).kids A2 F) (hnd : F.Nodup) (hF : ∀ c ∈ F, wr.heap.size ≤ c) (hc : (l[j]).kids.length ≤ c2) {u0 u1 u2 u3 u4 : Value}
    (h0 : w2.cell? ⟨w.heap.size, j * 5, none⟩ = some u0) (h1 : w2.cell? ⟨w.heap.size, j * 5 + 1, none⟩ = some u1) (h2 : w2.cell? ⟨w.heap.size, j * 5 + 2, none⟩ = some u2) (h3 : w2.cell? ⟨w.heap.size, j * 5 + 3, none⟩ = some u3) (h4 : w2.cell? ⟨w.heap.size, j * 5 + 4, none⟩ = some u4) (hg : w.heap.size < wr.heap.size := by assumption) :
    To2Rel l w (j + 1) (put5 w2 w.heap.size (j * 5) l[j] A2 c2) := by
  obtain ⟨G, g1, g2, g3⟩ := hrow
  have hGlt := Vs.cells_lt w.heap.size 0 _ G g1
  have hlen : (l.take j).length = j := by rw [List.length_take]; omega
  have blk : ∀ c, c ≠ w.heap.size → (put5 w2 w.heap.size (j * 5) l[j] A2 c2).heap[c]? = w2.heap[c]? := by
    intro c hc
    unfold put5
    rw [Below.heap_setCell _ _ _ _ (by exact hc), Below.heap_setCell _ _ _ _ (by exact hc), Below.heap_setCell _ _ _ _ (by exact hc), Below.heap_setCell _ _ _ _ (by exact hc), Below.heap_setCell _ _ _ _ (by exact hc)]
  refine ⟨put5_own hown, put5_below (hb.trans (hb2.mono hb.size)) (Nat.le_refl _), G ++ F, ?_, ?_, ?_⟩
  · rw [List.take_succ_eq_append_getElem hlt]
    refine Vs.cells_snoc hc (V.lies_kids.2 (Vs.lies_same hl2 ⟨by rw [put5_size]; exact Nat.le_refl _, fun c hcF => blk c (by have := hF c hcF; omega)⟩)) _ 0 G ?_ ?_
    · refine Vs.cells_front _ 0 G g1 (fun q hq => ?_) ⟨by rw [put5_size]; exact hb2.size, fun c hcG => ?_⟩
      · rw [put5_other (.inr (.inl (by show q < j * 5; rw [hlen] at hq; omega)))]
        exact hb2.cell (p := ⟨w.heap.size, q, none⟩) hg
      · rw [blk c (by have := g3 c hcG; omega)]
        exact hb2.block c (hGlt c hcG)
    · rw [hlen, Nat.zero_add]
      exact put5_at h0 h1 h2 h3 h4
  · refine List.nodup_append.2 ⟨g2, hnd, fun a ha b hb' e => ?_⟩
    subst e
    have := hGlt a ha
    have := hF a hb'
    omega
  · intro c hc'
    rcases List.mem_append.1 hc' with h | h
    · exact g3 c h
    · have := hF c h
      omega

set_option maxHeartbeats 1000000 in
theorem to2S_step (l : List V) (hk : ∀ i (h : i < l.length), To2Said l[i]) : To2SSaid l := by
  intro A cap w hl hn hat
  have HK := fun (i : Nat) (h : i < l.length) (A' : Option Addr) (c : Nat) (w' : World) (hat' : Vs.at_ w' 0 w'.heap.size (l[i]).kids A') => hk i h A' c w' (by have := Vs.nodes_get i h; omega) hat'
  have HC := Lib.hid HK
  clear HK hk
  obtain ⟨i0, hi, hz0, hz1, hz2⟩ := info_parts infoV
  go_enter Tryd.func47, Tryd.ntmps47
  go_wp2_with (at_make; refine wpList_make_full _ rfl _ _ 26 rfl w.heap.size 28 i0 _ 5 Tryd.underlying26 hi hz0 hz1 _ _ _ _ l.length rfl rfl (by omega) (by omega) ?b1 ?b2 ?b3 ?_)
  case b1 => rw [hz2]; omega
  case b2 => unfold maxLen; omega
  case b3 => omega
  intro w1 hown1 hg1
  go_wp2_with fail
  go_loopw [4] (fun i wr => ∃ j : Nat, j ≤ l.length ∧ i = .int .i64 j ∧ To2Rel l w j wr) (fun i _ => l.length - (intOf i).toNat)
  case atStart => exact ⟨0, Nat.zero_le _, rfl, ⟨_, hown1⟩, (Below.refl _ _).grown hg1 (Nat.le_refl _) (fun k h => by cases h), [], by simp [Vs.cells], List.nodup_nil, fun c h => by cases h⟩
  case round =>
    obtain ⟨j, hj, rfl, ⟨xs, hown⟩, hb, hrow⟩ := hrel
    have HR := Lib.hid hrow
    have hgr : w.heap.size < wr.heap.size := (hown.lt _ rfl).2
    clear hrow
    by_cases hlt : j < l.length
    · obtain ⟨b, off, A', cap', rfl, g1, g2, g3, ⟨c0, c1, c2, c3, c4⟩, g5⟩ := Vs.at_get j hlt (Vs.at_below hat hb (Nat.le_refl _))
      go_wp2_with fail
      refine (HC.out j hlt A' cap' _ (Vs.at_more (Nat.le_refl _) hb.size _ _ g5)).mono ?_
      rintro e w2 ⟨A2, c2', F, rfl, hc2, hat2, hnd2, hF2, hb2⟩
      unfold V.agg
      have hown2 := own_below hown hb2
      have hxl := hown2.1
      have cq : ∀ q, q < 5 → ∃ u, w2.cell? ⟨w.heap.size, j * 5 + q, none⟩ = some u := fun q hq => ⟨_, (hown2.cellAt (j * 5 + q) (by omega)).trans (List.getElem?_eq_getElem (by omega))⟩
      obtain ⟨u0, d0⟩ := cq 0 (by omega)
      obtain ⟨u1, d1⟩ := cq 1 (by omega)
      obtain ⟨u2, d2⟩ := cq 2 (by omega)
      obtain ⟨u3, d3⟩ := cq 3 (by omega)
      obtain ⟨u4, d4⟩ := cq 4 (by omega)
      simp only [Nat.add_zero] at d0
      have k0 := hown2.frozenAt (j * 5)
      have k1 := hown2.frozenAt (j * 5 + 1)
      have k2 := hown2.frozenAt (j * 5 + 2)
      have k3 := hown2.frozenAt (j * 5 + 3)
      have k4 := hown2.frozenAt (j * 5 + 4)
      have HO := Lib.hid hown2
      have HA := Lib.hid hat2
      have HB2 := Lib.hid hb2
      have HND2 := Lib.hid hnd2
      have HF2 := Lib.hid hF2
      clear c0 c1 c2 c3 c4 cq hxl hown2 hat2 hb2 hown hnd2 hF2
      go_wp2_with fail
      go_roundw
      case rel => exact ⟨j + 1, by omega, by go_num, to2_next hlt hb HR.out HB2.out HO.out HA.out HND2.out HF2.out hc2 d0 d1 d2 d3 d4⟩
      case measure => simp [intOf]; omega
    · obtain rfl : j = l.length := by omega
      go_wp2_with fail
      go_ret
      obtain ⟨G, g1, g2, g3⟩ := HR.out
      rw [List.take_length] at g1
      by_cases h0 : l = []
      · subst h0
        exact ⟨_, _, [], rfl, Nat.le_refl _, .inl ⟨rfl, rfl⟩, List.nodup_nil, (fun c h => by cases h), hb⟩
      · refine ⟨_, _, w.heap.size :: G, rfl, Nat.le_refl _, .inr ⟨_, G, rfl, rfl, (hown.lt _ rfl).2, soft_own hown, g1⟩, List.nodup_cons.2 ⟨fun h => Nat.lt_irrefl _ (g3 _ h), g2⟩, fun c hc => ?_, hb⟩
        rcases List.mem_cons.1 hc with rfl | hc
        · exact Nat.le_refl _
        · exact Nat.le_of_lt (g3 c hc)

theorem to2_all : ∀ (N : Nat), (∀ l : List V, Vs.nodes l ≤ N → To2SSaid l) := by
  intro N
  induction N with
  | zero =>
    intro l h
    refine to2S_step l fun i hi => ?_
    have h1 := Vs.nodes_get i hi
    have h2 := V.nodes_pos l[i]
    omega
  | succ N ih =>
    intro l h
    refine to2S_step l fun i hi => to2_step _ (ih _ ?_)
    have h1 := Vs.nodes_get i hi
    rw [V.nodes_eq] at h1
    omega
theorem toValue2 (v : V) : To2Said v := to2_step v (to2_all _ _ (Nat.le_refl _))

/-- A row whose block is as it was. -/
theorem own_same {w w' : World} {base e size n : Nat} {v : Value} {xs : List Value} (h : w.ownsRow base e size v n xs) (hb : ∀ g, v.ownBlock = some g → w'.heap[g]? = w.heap[g]?) : w'.ownsRow base e size v n xs := by
  refine ⟨h.1, ?_⟩
  rcases h.2 with h' | ⟨g, c, cur, rfl, h1, h2, h3⟩
  · exact .inl h'
  · exact .inr ⟨g, c, cur, rfl, h1, (hb g rfl).trans h2, h3⟩
theorem own_base {w : World} {base base' e size n : Nat} {v : Value} {xs : List Value} (h : w.ownsRow base e size v n xs) (hb : base' ≤ base) : w.ownsRow base' e size v n xs := by
  refine ⟨h.1, ?_⟩
  rcases h.2 with h' | ⟨g, c, cur, rfl, h1, h2⟩
  · exact .inl h'
  · exact .inr ⟨g, c, cur, rfl, Nat.le_trans hb h1, h2⟩
theorem own_touch {w w' : World} {F : List Nat} {base e size n : Nat} {v : Value} {xs : List Value} (h : w.ownsRow base e size v n xs) (ht : Touch F w w') (hF : ∀ c ∈ F, c < base) : w'.ownsRow base e size v n xs :=
  own_same h fun g hg => ht.block g (h.lt g hg).2 (fun hc => by have := hF g hc; have := (h.lt g hg).1; omega)
end Go.Proofs.YtcjamnfboifjeaaDoor

/-
  The laws' own test of equality holds of two copies of one value.
-/
namespace Go.Proofs.YtcjamnfboifjeaaDoor
open Go.RowKit
set_option linter.unusedVariables false
set_option maxRecDepth 100000
set_option linter.unusedSimpArgs false

def EqSaid (v : V) : Prop := ∀ (A A2 : Option Addr) (cap cap2 : Nat) (w : World), v.nodes ≤ 1048577 → Vs.at_ w 0 w.heap.size v.kids A → Vs.at_ w 0 w.heap.size v.kids A2 →
    Calls Tryd.prog 10 #[v.agg A cap, v.agg A2 cap2] w fun e w' => e = .returned (.bool true) ∧ Below w.heap.size w w'
def EqSSaid (l : List V) : Prop := ∀ (A A2 : Option Addr) (cap cap2 : Nat) (w : World), Vs.nodes l ≤ 1048576 → Vs.at_ w 0 w.heap.size l A → Vs.at_ w 0 w.heap.size l A2 →
    Calls Tryd.prog 50 #[.slice A l.length cap, .slice A2 l.length cap2] w fun e w' => e = .returned (.bool true) ∧ Below w.heap.size w w'


set_option maxHeartbeats 1000000 in
theorem eq_step (v : V) (hk : EqSSaid v.kids) : EqSaid v := by
  intro A A2 cap cap2 w hn hat hat2
  rw [V.nodes_eq] at hn
  have HK := fun (c c2 : Nat) (w' : World) (h1 : Vs.at_ w' 0 w'.heap.size v.kids A) (h2 : Vs.at_ w' 0 w'.heap.size v.kids A2) => hk A A2 c c2 w' (by omega) h1 h2
  have HC := Lib.hid HK
  clear HK hk
  have HA := Lib.hid hat
  have HA2 := Lib.hid hat2
  clear hat hat2
  unfold V.agg
  go_enter Tryd.func10, Tryd.ntmps10
  go_wp2_with fail
  refine (HC.out _ _ _ (Vs.at_more (Nat.le_refl _) (by simp; omega) _ _ (Vs.at_alloc (Vs.at_alloc HA.out (Nat.le_refl _) _) (by simp) _)) (Vs.at_more (Nat.le_refl _) (by simp; omega) _ _ (Vs.at_alloc (Vs.at_alloc HA2.out (Nat.le_refl _) _) (by simp) _))).mono ?_
  rintro e w1 ⟨rfl, hb1⟩
  have hbw : Below w.heap.size w w1 := (((Below.refl _ w).alloc (Nat.le_refl _) _).alloc (by simp) _).trans (hb1.mono (by simp; omega))
  go_wp2_with fail
  go_ret
  exact ⟨rfl, hbw⟩

set_option maxHeartbeats 1000000 in
theorem eqS_step (l : List V) (hk : ∀ i (h : i < l.length), EqSaid l[i]) : EqSSaid l := by
  intro A A2 cap cap2 w hn hat hat2
  have hl : l.length ≤ 1048576 := by have := Vs.len_nodes l; omega
  have HK := fun (i : Nat) (h : i < l.length) (A' A2' : Option Addr) (c c2 : Nat) (w' : World) (h1 : Vs.at_ w' 0 w'.heap.size (l[i]).kids A') (h2 : Vs.at_ w' 0 w'.heap.size (l[i]).kids A2') => hk i h A' A2' c c2 w' (by have := Vs.nodes_get i h; omega) h1 h2
  have HC := Lib.hid HK
  clear HK hk
  have HA := Lib.hid hat
  have HA2 := Lib.hid hat2
  clear hat hat2
  go_enter Tryd.func50, Tryd.ntmps50
  go_wp2_with fail
  go_loopw [5] (fun i wr => ∃ j : Nat, j ≤ l.length ∧ i = .int .i64 j ∧ Below w.heap.size w wr) (fun i _ => l.length - (intOf i).toNat)
  case atStart => exact ⟨0, Nat.zero_le _, rfl, Below.refl _ _⟩
  case round =>
    obtain ⟨j, hj, rfl, hb⟩ := hrel
    by_cases hlt : j < l.length
    · have hat1 := Vs.at_below HA.out hb (Nat.le_refl _)
      have hat2 := Vs.at_below HA2.out hb (Nat.le_refl _)
      obtain ⟨b, off, A', cap', rfl, g1, g2, g3, ⟨c0, c1, c2, c3, c4⟩, g5⟩ := Vs.at_get j hlt hat1
      obtain ⟨b2, off2, A2', cap2', rfl, g12, g22, g32, ⟨d0, d1, d2, d3, d4⟩, g52⟩ := Vs.at_get j hlt hat2
      clear hat1 hat2
      go_wp2_with fail
      go_still_tail 8, (by kernel_rfl)
      change wpList _ _ _ _ _ wr.drew
      go_wp2_with fail
      refine (HC.out j hlt A' A2' cap' cap2' wr.drew (Vs.at_more (Nat.le_refl _) hb.size _ _ (Vs.at_drew g5)) (Vs.at_more (Nat.le_refl _) hb.size _ _ (Vs.at_drew g52))).mono ?_
      rintro e w1 ⟨rfl, hb1⟩
      have hbw : Below w.heap.size w w1 := hb.drew.trans (hb1.mono hb.size)
      clear c0 c1 c2 c3 c4 d0 d1 d2 d3 d4
      go_wp2_with fail
      go_roundw
      case rel => exact ⟨j + 1, by omega, by go_num, hbw⟩
      case measure => simp [intOf]; omega
    · obtain rfl : j = l.length := by omega
      go_wp2_with fail
      go_ret
      exact ⟨rfl, hb⟩

theorem eq_all : ∀ (N : Nat), (∀ l : List V, Vs.nodes l ≤ N → EqSSaid l) := by
  intro N
  induction N with
  | zero =>
    intro l h
    refine eqS_step l fun i hi => ?_
    have h1 := Vs.nodes_get i hi
    have h2 := V.nodes_pos l[i]
    omega
  | succ N ih =>
    intro l h
    refine eqS_step l fun i hi => eq_step _ (ih _ ?_)
    have h1 := Vs.nodes_get i hi
    rw [V.nodes_eq] at h1
    omega
theorem eqValue_any (v : V) : EqSaid v := eq_step v (eq_all _ _ (Nat.le_refl _))
end Go.Proofs.YtcjamnfboifjeaaDoor

/-
  An argument that is a value of the laws, read as a tree.
-/
namespace Go.Proofs.YtcjamnfboifjeaaDoor
open Go.RowKit Go.ChangeShapes Go.WideShapes Go.Deep
set_option linter.unusedVariables false
set_option linter.unusedSimpArgs false
set_option maxRecDepth 100000

theorem cellsLV : Tryd.prog.cellsOf 24 = 5 := by kernel_rfl
theorem cellsInt : Tryd.prog.cellsOf 3 = 1 := by kernel_rfl
theorem cellsStr : Tryd.prog.cellsOf 9 = 1 := by kernel_rfl
theorem cellsLVs : Tryd.prog.cellsOf 22 = 1 := by kernel_rfl

theorem inI_of_wf {n : Int} (h : (Lit.int .i64 n).wf = true) : inI n := by
  unfold inI
  simpa [Lit.wf, IntKind.min, IntKind.max, IntKind.signed, IntKind.bits] using h

/-- One tree out of many: for every i below n there is a value. -/
theorem choose_V {n : Nat} {R : Nat → V → Prop} (h : ∀ i, i < n → ∃ v, R i v) : ∃ l : List V, l.length = n ∧ ∀ i (hi : i < l.length), R i l[i] := by
  induction n with
  | zero => exact ⟨[], rfl, fun i hi => absurd hi (by simp)⟩
  | succ n ih =>
    obtain ⟨l, hl, hR⟩ := ih fun i hi => h i (by omega)
    obtain ⟨v, hv⟩ := h n (by omega)
    refine ⟨l ++ [v], by simp [hl], fun i hi => ?_⟩
    by_cases he : i < l.length
    · rw [List.getElem_append_left he]; exact hR i he
    · have hin : i = l.length := by simp at hi; omega
      subst hin
      simp
      rw [hl]; exact hv
theorem Vs.fits_of : ∀ (l : List V), (∀ i (h : i < l.length), (l[i]).fits) → Vs.fits l
  | [], _ => by simp only [Vs.fits]
  | v :: r, h => by
    simp only [Vs.fits]
    exact ⟨h 0 (Nat.zero_lt_succ _), Vs.fits_of r fun i hi => h (i + 1) (Nat.succ_lt_succ hi)⟩

section
variable {H : Type} {enc : TypeId × Value → H} {W : World} {sp : Nat → Bool} {held : Bool}

theorem open_V : ∀ (fuel : Nat) (cs : List Value) (x : DataW H × List MemPlace), DataW.trod enc Tryd.prog W 0 sp held fuel 24 cs = some x →
    ∃ (v : V) (A : Option Addr) (cap : Nat), cs = [.int .i64 v.k, .int .i64 v.n, .int .i64 v.e, .string v.s, .slice A v.kids.length cap] ∧ v.kids.length ≤ cap ∧ v.fits ∧ Vs.at_ W 0 W.heap.size v.kids A := by
  intro fuel
  induction fuel using Nat.strongRecOn with
  | _ fuel ih =>
  intro cs x h
  obtain ⟨xs, m, hfu, rfl, hlen, hl, hf⟩ := DataW.trod_struct Tryd.underlying24 h
  rw [cellsLV] at hlen
  match cs, hlen with
  | [v0, v1, v2, v3, v4], _ =>
  match xs, hl with
  | [y0, y1, y2, y3, y4], _ =>
  have f0 := hf 0 _ rfl
  have f1 := hf 1 _ rfl
  have f2 := hf 2 _ rfl
  have f3 := hf 3 _ rfl
  have f4 := hf 4 _ rfl
  simp [cellsInt, cellsStr, cellsLVs] at f0 f1 f2 f3 f4
  obtain ⟨k, e0, _, wk⟩ := DataW.trod_int Tryd.underlying3 f0
  obtain ⟨n, e1, _, wn⟩ := DataW.trod_int Tryd.underlying3 f1
  obtain ⟨e, e2, _, we⟩ := DataW.trod_int Tryd.underlying3 f2
  obtain ⟨s, e3, _, hs⟩ := DataW.trod_string Tryd.underlying9 f3
  simp only [List.cons.injEq, and_true] at e0 e1 e2 e3
  subst e0 e1 e2 e3
  have rk := inI_of_wf wk
  have rn := inI_of_wf wn
  have re := inI_of_wf we
  unfold maxLen at hs
  rcases DataW.trod_slice Tryd.underlying22 f4 with ⟨e4, _⟩ | ⟨a, len, cap, elems, rest, n', hm, e4, _, hb, hlc, hcm, hel, hat, _⟩
  · simp only [List.cons.injEq, and_true] at e4
    subst e4
    exact ⟨.mk k n e s [], none, 0, rfl, Nat.le_refl _, by simp [V.fits, Vs.fits, hs, rk, rn, re], by simp [V.kids, Vs.at_]⟩
  · simp only [List.cons.injEq, and_true] at e4
    subst e4
    unfold maxLen at hcm
    rw [cellsLV] at hat
    have hone : ∀ i, i < len → ∃ v : V, ∃ A' cap', v.kids.length ≤ cap' ∧ v.fits ∧ (∃ b off, a = ⟨b, off, none⟩ ∧ b < W.heap.size ∧ CellsAt W b (off + i * 5) v A' cap') ∧ Vs.at_ W 0 W.heap.size v.kids A' := by
      intro i hi
      have h1 := hat i hi
      have h2 : elems[i]? = some (elems[i]'(by omega)) := List.getElem?_eq_getElem (by omega)
      rw [h2] at h1
      obtain ⟨cs', hc, ht⟩ := Option.bind_eq_some_iff.1 h1
      obtain ⟨v, A', cap', rfl, g1, g2, g3⟩ := ih n' (by omega) cs' _ ht
      obtain ⟨_, hcl, hcell⟩ := World.cells?_some hc
      have q := fun j (hj : j < 5) => hcell j hj
      have h10 := hat 0 (by omega)
      have h20 : elems[0]? = some (elems[0]'(by omega)) := List.getElem?_eq_getElem (by omega)
      rw [h20] at h10
      obtain ⟨cs0, hc0, _⟩ := Option.bind_eq_some_iff.1 h10
      obtain ⟨_, hcl0, hcell0⟩ := World.cells?_some hc0
      have p0 : ∃ u, W.cell? a = some u := by
        have := hcell0 0 (by omega)
        rw [List.getElem?_eq_getElem (by omega)] at this
        simp [Addr.add] at this
        exact ⟨_, this⟩
      obtain ⟨u0, p0⟩ := p0
      obtain ⟨b, off, spot⟩ := a
      have hspot : spot = none := World.cell?_spot p0
      subst hspot
      have ad : ∀ j, ((⟨b, off, none⟩ : Addr).add (i * 5)).add j = ⟨b, off + i * 5 + j, none⟩ := fun j => by rw [Addr.add_lit, Addr.add_lit]
      have q0 := q 0 (by omega)
      have q1 := q 1 (by omega)
      have q2 := q 2 (by omega)
      have q3 := q 3 (by omega)
      have q4 := q 4 (by omega)
      rw [ad] at q0 q1 q2 q3 q4
      exact ⟨v, A', cap', g1, g2, ⟨b, off, rfl, World.block_lt_of_cell? W ⟨b, off + i * 5 + 0, none⟩ q0, ⟨q0, q1, q2, q3, q4⟩⟩, g3⟩
    obtain ⟨l, hll, hR⟩ := choose_V hone
    subst hll
    refine ⟨.mk k n e s l, some a, cap, rfl, hlc, ?_, ?_⟩
    · simp only [V.fits]
      exact ⟨hs, by omega, (Vs.fits_of l fun i hi => by obtain ⟨_, _, _, hf, _⟩ := hR i hi; exact hf), rk, rn, re⟩
    · show Vs.at_ W 0 W.heap.size l (some a)
      by_cases h0 : l.length = 0
      · have : l = [] := List.eq_nil_of_length_eq_zero h0
        subst this
        simp only [Vs.at_]
      · obtain ⟨_, _, _, _, ⟨b, off, rfl, hbl, _⟩, _⟩ := hR 0 (by omega)
        refine Vs.at_of (Nat.zero_le _) hbl l off fun i hi => ?_
        obtain ⟨A', cap', r1, _, ⟨b', off', e, _, r2⟩, r3⟩ := hR i hi
        injection e with e1 e2
        subst e1 e2
        exact ⟨A', cap', r1, r2, r3⟩

/-- A value of the laws that came in. -/
theorem open_value {v : Value} {d : DataW H} {p : List MemPlace} {r : Reach} {b0 : Nat} (hv : Value.okWide Tryd.prog W r b0 24 v) (h : DataW.Trod enc Tryd.prog W 0 sp held 24 v d p) :
    ∃ (t : V) (A : Option Addr) (cap : Nat), v = t.agg A cap ∧ t.fits ∧ Vs.at_ W 0 W.heap.size t.kids A := by
  obtain ⟨cs, rfl, hsz⟩ := okWide_struct Tryd.underlying24 hv
  obtain ⟨fuel, hf⟩ := h
  obtain ⟨t, A, cap, e, _, h1, h2⟩ := open_V fuel _ _ hf
  refine ⟨t, A, cap, ?_, h1, h2⟩
  unfold V.agg
  congr 1
  apply Array.ext'
  simpa [Value.cells] using e
end
end Go.Proofs.YtcjamnfboifjeaaDoor

/-
  FnExactSorted returns true for every value that can be read; it reads as it did; no conditions.
-/
namespace Go.Proofs.YtcjamnfboifjeaaDoor.fnExactSorted
open Go.ChangeShapes Go.WideShapes Go.ChangeAt Go.RowKit
open Go.ChangeMaps (open_string shut_string)
set_option linter.unusedVariables false

set_option maxHeartbeats 8000000 in
theorem walk (t0 : V) (A0 : Option Addr) (c0 : Nat) (f0 : t0.fits) (w : World) (h0 : Vs.at_ w 0 w.heap.size t0.kids A0) (hT : Tabs w) :
    Calls Tryd.prog 3 #[t0.agg A0 c0] w fun e w' => e = .returned (.bool true) ∧ Below w.heap.size w w' := by
  have H0 := Lib.hid h0
  clear h0
  by_cases hwt : t0.weight ≤ 1048576
  · have e1 : szR 1048576 t0.weight = 1048576 - t0.weight := by rw [szR, if_pos (by omega)]
    have hn : t0.nodes ≤ 1048577 := by have := V.nodes_weight t0; omega
    have hnk : 1 + 4 * Vs.nodes t0.kids ≤ 10000000 := by have := V.nodes_eq t0; omega
    have hdn : (sortV t0).nodes ≤ 1048577 := by rw [sortV_nodes]; exact hn
    have cS := fun A c W h2 => specSorted t0 A c W hwt h2
    have cI := fun A c W (hb : Below w.heap.size w W) h2 => implSorted t0 A c W hwt (hT.below hb) h2
    unfold Copied at cS cI
    obtain ⟨d, hd⟩ : ∃ d, sortV t0 = d := ⟨_, rfl⟩
    rw [hd] at cS cI hdn
    have hdk : 1 + 4 * Vs.nodes d.kids ≤ 10000000 := by have := V.nodes_eq d; omega
    have HE := Lib.hid e1
    have HCS := Lib.hid cS
    have HCI := Lib.hid cI
    clear e1 hd cS cI
    unfold V.agg
    go_enter Tryd.func3, Tryd.ntmps3
    go_wp2_with fail
    refine (szValue_any t0 A0 c0 1048576 _ (by omega) (by omega) f0 (Vs.at_more (Nat.le_refl _) (by simp) _ _ (Vs.at_alloc H0.out (Nat.le_refl _) _))).mono ?_
    rintro e w1 ⟨rfl, hb1⟩
    rw [HE.out]
    have Bv := (Blk.new w _ _).below hb1 (by simp)
    have b1 : Below w.heap.size w w1 := ((Below.refl _ w).alloc (Nat.le_refl _) _).trans (hb1.mono (by simp))
    obtain ⟨p0, p1, p2, p3, p4⟩ := Bv.five
    clear hb1
    go_wp2_with fail
    refine (toValue_any t0 A0 c0 _ hn (Vs.at_more (Nat.le_refl _) b1.size _ _ (Vs.at_below H0.out b1 (Nat.le_refl _)))).mono ?_
    rintro e w2 ⟨A1, c1, rfl, hc1, at1, hb2⟩
    have Bv2 := Bv.below hb2 Bv.lt
    have b2 := b1.trans (hb2.mono b1.size)
    clear p0 p1 p2 p3 p4 hb2 Bv b1
    unfold V.agg
    go_wp2_with fail
    refine (HCS.out A1 c1 _ (Vs.at_more (Nat.zero_le _) (Nat.le_refl _) _ _ at1)).mono ?_
    rintro e w3 ⟨A3, c3, F0, rfl, hc3, hl3, hnd3, hF3, hb3⟩
    have Bv3 := Bv2.below hb3 Bv2.lt
    have b3 := b2.trans (hb3.mono b2.size)
    have L3 := Lib.hid (Vs.lies_at hl3 (lo := 0) (fun _ _ => Nat.zero_le _))
    clear hb3 Bv2 b2 at1 hl3 hnd3 hF3
    unfold V.agg
    obtain ⟨p0, p1, p2, p3, p4⟩ := Bv3.five
    have ltv3 := Bv3.lt
    go_wp2_with fail
    obtain ⟨w4, hw4⟩ : ∃ w4, w4 = w3.alloc (.cells #[.int .i64 d.k, .int .i64 d.n, .int .i64 d.e, .string d.s, .slice A3 d.kids.length c3] 28) := ⟨_, rfl⟩
    have Bx4 : Blk w4 w3.heap.size 28 #[.int .i64 d.k, .int .i64 d.n, .int .i64 d.e, .string d.s, .slice A3 d.kids.length c3] := by rw [hw4]; exact Blk.new w3 _ _
    have bx4 : Below w3.heap.size w3 w4 := by rw [hw4]; exact (Below.refl _ w3).alloc (Nat.le_refl _) _
    have z4 : w4.heap.size = w3.heap.size + 1 := by rw [hw4]; simp
    have Bv4 := Bv3.below bx4 Bv3.lt
    have b4 := b3.trans (bx4.mono b3.size)
    rw [← hw4]
    clear hw4
    refine (toValue2 t0 A0 c0 _ hn (Vs.at_more (Nat.le_refl _) b4.size _ _ (Vs.at_below H0.out b4 (Nat.le_refl _)))).mono ?_
    rintro e w5 ⟨A5, c5, F1, rfl, hc5, hl5, hnd5, hF5, hb5⟩
    have LI := Lib.hid hl5
    have ND := Lib.hid hnd5
    have HF := Lib.hid hF5
    have HLT := Lib.hid (lies_lt hl5)
    clear p0 p1 p2 p3 p4 hl5 hnd5 hF5
    unfold V.agg
    go_wp2_with fail
    obtain ⟨w6, hw6⟩ : ∃ w6, w6 = w5.alloc (.cells #[.int .i64 t0.k, .int .i64 t0.n, .int .i64 t0.e, .string t0.s, .slice A5 t0.kids.length c5] 28) := ⟨_, rfl⟩
    have Bx6 : Blk w6 w5.heap.size 28 #[.int .i64 t0.k, .int .i64 t0.n, .int .i64 t0.e, .string t0.s, .slice A5 t0.kids.length c5] := by rw [hw6]; exact Blk.new w5 _ _
    have bx6 : Below w5.heap.size w5 w6 := by rw [hw6]; exact (Below.refl _ w5).alloc (Nat.le_refl _) _
    have z6 : w6.heap.size = w5.heap.size + 1 := by rw [hw6]; simp
    have b46 := hb5.trans (bx6.mono hb5.size)
    rw [← hw6]
    clear hw6
    have at6 := Vs.at_more (Nat.zero_le _) bx6.size _ _ (Vs.at_below (Vs.lies_at LI.out (lo := 0) (fun _ _ => Nat.zero_le _)) bx6 (Nat.le_refl _))
    refine (HCI.out A5 c5 _ (b4.trans (b46.mono b4.size)) at6).mono ?_
    rintro e w7 ⟨A7, c7, F2, rfl, hc7, hl7, hnd7, hF7, hb7⟩
    have L7 := Lib.hid hl7
    have ND7 := Lib.hid hnd7
    have HF7 := Lib.hid hF7
    have HLT7 := Lib.hid (lies_lt hl7)
    have b47 := b46.trans (hb7.mono b46.size)
    clear hl7 hnd7 hF7
    unfold V.agg
    have B47 := Bx4.below b47 Bx4.lt
    obtain ⟨p0, p1, p2, p3, p4⟩ := B47.five
    have ltx7 := B47.lt
    go_wp2_with fail
    obtain ⟨w8, hw8⟩ : ∃ w8, w8 = w7.alloc (.cells #[.int .i64 d.k, .int .i64 d.n, .int .i64 d.e, .string d.s, .slice A7 d.kids.length c7] 28) := ⟨_, rfl⟩
    have Bx8 : Blk w8 w7.heap.size 28 #[.int .i64 d.k, .int .i64 d.n, .int .i64 d.e, .string d.s, .slice A7 d.kids.length c7] := by rw [hw8]; exact Blk.new w7 _ _
    have bx8 : Below w7.heap.size w7 w8 := by rw [hw8]; exact (Below.refl _ w7).alloc (Nat.le_refl _) _
    have z8 : w8.heap.size = w7.heap.size + 1 := by rw [hw8]; simp
    have b48 := b47.trans (bx8.mono b47.size)
    have b68 := hb7.trans (bx8.mono hb7.size)
    have lt4 := Bx4.lt
    have lt6 := Bx6.lt
    have lt8 := Bx8.lt
    have B48 := Bx4.below b48 lt4
    have s34 : w3.heap.size ≤ w4.heap.size := bx4.size
    have s48 : w4.heap.size ≤ w8.heap.size := b48.size
    have s68 : w6.heap.size ≤ w8.heap.size := b68.size
    have s46 : w4.heap.size ≤ w6.heap.size := b46.size
    have b38 := bx4.trans (b48.mono s34)
    have at80 := Vs.at_more (Nat.le_refl _) b38.size _ _ (Vs.at_below L3.out b38 (Nat.le_refl _))
    have at87 := Vs.at_more (Nat.le_refl _) bx8.size _ _ (Vs.at_below (Vs.lies_at L7.out (lo := 0) (fun _ _ => Nat.zero_le _)) bx8 (Nat.le_refl _))
    rw [← hw8]
    clear hw8
    refine (eqValue_any d A7 A3 c7 c3 w8 hdn at87 at80).mono ?_
    rintro e w9 ⟨rfl, hb9⟩
    clear p0 p1 p2 p3 p4 at80 at87
    have b49 := b48.trans (hb9.mono s48)
    have b69 := b68.trans (hb9.mono s68)
    have Bv9 := Bv4.below b49 Bv4.lt
    have B69 := Bx6.below b69 lt6
    have b09 := b4.trans (b49.mono b4.size)
    have at9 := Vs.at_below at6 b69 (Nat.le_refl _)
    obtain ⟨p0, p1, p2, p3, p4⟩ := Bv9.five
    obtain ⟨q0, q1, q2, q3, q4⟩ := B69.five
    have s69 : w6.heap.size ≤ w9.heap.size := b69.size
    have s59 : w5.heap.size < w9.heap.size := by omega
    go_wp2_with fail
    go_region_with (first
      | (go_at_call 8; refine (toValue_any t0 A0 c0 w9.drew hn (Vs.at_more (Nat.le_refl _) b09.size _ _ (Vs.at_drew (Vs.at_below H0.out b09 (Nat.le_refl _))))).mono ?_; rintro e w10 ⟨A10, c10, rfl, hc10, at10, hb10⟩; have Bx10 := (Blk.drew B69).below hb10 (Blk.drew B69).lt; obtain ⟨r0, r1, r2, r3, r4⟩ := Bx10.five; have at10' := Vs.at_below (Vs.at_drew at9) hb10 s69; have b910 : Below w9.heap.size w9 w10 := (Below.refl _ w9).drew.trans hb10; unfold V.agg)
      | (go_at_call 10; refine (eqValue_any t0 A5 A10 c5 c10 w10 hn (Vs.at_more (Nat.le_refl _) (Nat.le_trans s69 hb10.size) _ _ at10') (Vs.at_more (Nat.zero_le _) (Nat.le_refl _) _ _ at10)).mono ?_; rintro e w11 ⟨rfl, hb11⟩; have b911 := b910.trans (hb11.mono b910.size)))
    all_goals
      clear p0 p1 p2 p3 p4 q0 q1 q2 q3 q4 r0 r1 r2 r3 r4 at10 at10' at9
      have b411 := b49.trans (b911.mono b49.size)
      have b611 := b69.trans (b911.mono b69.size)
      have b811 := hb9.trans (b911.mono hb9.size)
      have B611 := Bx6.below b611 lt6
      obtain ⟨q0, q1, q2, q3, q4⟩ := B611.five
      have b511 := bx6.trans (b611.mono bx6.size)
      go_wp2_with fail
      refine (markValue_any t0 A5 c5 1 w11 F1 (by omega) hnk (lies_below LI.out b511 HLT.out) ND.out).mono ?_
      rintro e w12 ⟨rfl, _, ht12⟩
      clear q0 q1 q2 q3 q4
      have t12 : Below w4.heap.size w11 w12 := ht12.below b411.size HF.out
      have b412 := b411.trans t12
      have l711 := lies_below L7.out (bx8.trans (b811.mono bx8.size)) HLT7.out
      have hd12 : ∀ c ∈ F2, c ∉ F1 := fun c hc hc' => by have := HF7.out c hc; have := HLT.out c hc'; omega
      have l712 := lies_touch l711 ht12 hd12
      have B811 := Bx8.below b811 lt8
      have B812 := B811.touch ht12 (fun hc => by have := HLT.out _ hc; have := hb7.size; omega)
      have B412 := Bx4.below b412 lt4
      have b312 := bx4.trans (b412.mono s34)
      have L712 := Lib.hid l712
      obtain ⟨p0, p1, p2, p3, p4⟩ := B412.five
      obtain ⟨q0, q1, q2, q3, q4⟩ := B812.five
      clear ht12 hd12 l711 l712
      go_wp2_with fail
      refine (eqValue_any d A7 A3 c7 c3 w12 hdn (Vs.at_more (Nat.le_refl _) (Nat.le_refl _) _ _ (Vs.lies_at L712.out (lo := 0) (fun _ _ => Nat.zero_le _))) (Vs.at_more (Nat.le_refl _) b312.size _ _ (Vs.at_below L3.out b312 (Nat.le_refl _)))).mono ?_
      rintro e w13 ⟨rfl, hb13⟩
      clear p0 p1 p2 p3 p4 q0 q1 q2 q3 q4
      have b413 := b412.trans (hb13.mono b412.size)
      have B813 := B812.below hb13 B812.lt
      have L713 := Lib.hid (lies_below L712.out hb13 (lies_lt L712.out))
      obtain ⟨q0, q1, q2, q3, q4⟩ := B813.five
      go_wp2_with fail
      refine (markValue_any d A7 c7 1 w13 F2 (by omega) hdk L713.out ND7.out).mono ?_
      rintro e w14 ⟨rfl, hl14, ht14⟩
      clear q0 q1 q2 q3 q4
      have t14 : Below w4.heap.size w13 w14 := ht14.below b413.size (fun c hc => Nat.le_trans s46 (HF7.out c hc))
      have b414 := b413.trans t14
      have L14 := Lib.hid hl14
      have B814 := B813.touch ht14 (fun hc => by have := HLT7.out _ hc; omega)
      obtain ⟨q0, q1, q2, q3, q4⟩ := B814.five
      clear ht14 hl14
      go_wp2_with fail
      refine (heldValue_any d A7 c7 1 w14 F2 d.kids rfl (by omega) hdk L14.out).mono ?_
      rintro e w15 ⟨rfl, hb15⟩
      clear q0 q1 q2 q3 q4
      have b415 := b414.trans (hb15.mono b414.size)
      have Bv15 := Bv4.below b415 Bv4.lt
      have b015 := b4.trans (b415.mono b4.size)
      obtain ⟨p0, p1, p2, p3, p4⟩ := Bv15.five
      go_wp2_with fail
      refine (toValue_any t0 A0 c0 w15 hn (Vs.at_more (Nat.le_refl _) b015.size _ _ (Vs.at_below H0.out b015 (Nat.le_refl _)))).mono ?_
      rintro e w16 ⟨A16, c16, rfl, hc16, at16, hb16⟩
      have b416 := b415.trans (hb16.mono b415.size)
      clear p0 p1 p2 p3 p4
      unfold V.agg
      go_wp2_with fail
      refine (HCI.out A16 c16 w16 (b4.trans (b416.mono b4.size)) (Vs.at_more (Nat.zero_le _) (Nat.le_refl _) _ _ at16)).mono ?_
      rintro e w17 ⟨A17, c17, F3, rfl, hc17, hl17, _, _, hb17⟩
      have b417 := b416.trans (hb17.mono b416.size)
      have L17 := Lib.hid (Vs.lies_at hl17 (lo := 0) (fun _ _ => Nat.zero_le _))
      clear hl17 at16
      unfold V.agg
      have B417 := Bx4.below b417 lt4
      obtain ⟨p0, p1, p2, p3, p4⟩ := B417.five
      have ltx17 := B417.lt
      go_wp2_with fail
      obtain ⟨w18, hw18⟩ : ∃ w18, w18 = w17.alloc (.cells #[.int .i64 d.k, .int .i64 d.n, .int .i64 d.e, .string d.s, .slice A17 d.kids.length c17] 28) := ⟨_, rfl⟩
      have Bx18 : Blk w18 w17.heap.size 28 #[.int .i64 d.k, .int .i64 d.n, .int .i64 d.e, .string d.s, .slice A17 d.kids.length c17] := by rw [hw18]; exact Blk.new w17 _ _
      have bx18 : Below w17.heap.size w17 w18 := by rw [hw18]; exact (Below.refl _ w17).alloc (Nat.le_refl _) _
      have z18 : w18.heap.size = w17.heap.size + 1 := by rw [hw18]; simp
      have b418 := b417.trans (bx18.mono b417.size)
      have B418 := Bx4.below b418 lt4
      have b318 := bx4.trans (b418.mono s34)
      have b1418 := hb15.trans ((hb16.mono hb15.size).trans ((hb17.mono (Nat.le_trans hb15.size hb16.size)).trans (bx18.mono (Nat.le_trans hb15.size (Nat.le_trans hb16.size hb17.size)))))
      rw [← hw18]
      clear hw18
      refine (eqValue_any d A17 A3 c17 c3 w18 hdn (Vs.at_more (Nat.le_refl _) bx18.size _ _ (Vs.at_below L17.out bx18 (Nat.le_refl _))) (Vs.at_more (Nat.le_refl _) b318.size _ _ (Vs.at_below L3.out b318 (Nat.le_refl _)))).mono ?_
      rintro e w19 ⟨rfl, hb19⟩
      clear p0 p1 p2 p3 p4
      have b1419 := b1418.trans (hb19.mono b1418.size)
      have b419 := b418.trans (hb19.mono b418.size)
      have B819 := B814.below b1419 B814.lt
      obtain ⟨q0, q1, q2, q3, q4⟩ := B819.five
      go_wp2_with fail
      refine (heldValue_any d A7 c7 1 w19 F2 d.kids rfl (by omega) hdk (lies_below L14.out b1419 (lies_lt L14.out))).mono ?_
      rintro e w20 ⟨rfl, hb20⟩
      clear q0 q1 q2 q3 q4
      go_wp2_with fail
      go_ret
      exact ⟨rfl, b4.trans ((b419.trans (hb20.mono b419.size)).mono b4.size)⟩
  · have e1 : szR 1048576 t0.weight = -1 := by rw [szR, if_neg (by omega)]
    have HE := Lib.hid e1
    clear e1
    unfold V.agg
    go_enter Tryd.func3, Tryd.ntmps3
    go_wp2_with fail
    refine (szValue_any t0 A0 c0 1048576 _ (by omega) (by omega) f0 (Vs.at_more (Nat.le_refl _) (by simp) _ _ (Vs.at_alloc H0.out (Nat.le_refl _) _))).mono ?_
    rintro e w1 ⟨rfl, hb1⟩
    rw [HE.out]
    go_wp2_with fail
    go_ret
    exact ⟨rfl, ((Below.refl _ w).alloc (Nat.le_refl _) _).trans (hb1.mono (by simp))⟩

set_option maxRecDepth 100000 in
theorem lifted (os : Os) (started : os.Started) (H : Type) (enc : TypeId × Value → H) :
    ReturnsInHanded {} Tryd.checked os 3 .any (fun w args => (Rows.fnExactSortedSpec.pre enc Tryd.prog Tryd.f3 [] false w args ∧ laidMetH Tryd.prog Rows.fnExactSortedRow.laid w) ∧ sizedMet enc Tryd.prog Tryd.f3 (OpenSpec.ofChange Rows.fnExactSortedSpec) false w args)
      (Rows.fnExactSortedSpec.post enc Tryd.prog Tryd.f3 false true false false) := by
  refine returnsInHanded_of_change_and (C := Tryd.checked) (X := fun w _ => laidMetH Tryd.prog Rows.fnExactSortedRow.laid w) (fun _ _ _ hh h => h.of_heap hh) own started (by kernel_rfl) Tryd.func3
    (ChangeSpec.witness_shaped (enc := enc) (C := Tryd.checked) (os := os) (X := fun w _ => laidMetH Tryd.prog Rows.fnExactSortedRow.laid w) false (World.laidAll Tryd.prog os Rows.fnExactSortedRow.laid) #[.agg #[.int .i64 0, .int .i64 0, .int .i64 0, .string ByteArray.empty, .slice none 0 0]] 8 (World.laidAll_os _ _ _)
      (World.shaped_of_ZipB (by kernel_rfl) (by kernel_rfl)) (by kernel_rfl) (by kernel_rfl) (by kernel_rfl)
      (by rw [MakeChecks.laidMetH_plain _ _ _ (by kernel_rfl)]; exact laidMet_laidAll _ (by kernel_rfl) (by kernel_rfl))) ?_
  intro W base args ds gs before hval0 hW _ _ hL _
  rw [MakeChecks.laidMetH_plain _ _ _ (by kernel_rfl)] at hL
  have hT : Tabs W := tabs_of_laid hL (.head _) (.tail _ (.head _))
  have hval : ∀ (j : Nat) t v, Tryd.f3.params[j]? = some t → args[j]? = some v → Value.okWide Tryd.prog W .any base t v := hval0
  have hW' := hW
  obtain ⟨p, q, hA0, hV, rfl, hfz, hnd⟩ := hW
  have hA : DataW.TrodAll enc Tryd.prog W 0 (fun _ => true) true Tryd.f3.params.toList args.toList ds p := hA0
  rw [Tryd.params3] at hA hval
  obtain ⟨v0, vs0, d0, ds0, p0, q0, hargs, rfl, rfl, h0, r0⟩ := trodAll_cons hA
  obtain ⟨rfl, rfl, rfl⟩ := trodAll_nil r0
  obtain rfl : args = #[v0] := by cases args; simp_all
  obtain ⟨rfl, rfl⟩ := trodVars_none hV
  have k0 := h0
  have lt0 : ∀ x ∈ p0, x.block < W.heap.size := by obtain ⟨m, hm⟩ := k0; exact DataW.trod_lt m _ _ _ hm
  obtain ⟨t0, A0, c0, rfl, f0, at0⟩ := open_value (hval 0 24 v0 rfl rfl) h0
  clear hA0 hval0
  refine (walk t0 A0 c0 f0 W at0 hT).mono fun e W' ⟨he, bel⟩ => ?_
  subst he
  exact ⟨_, rfl, _, _, _, [], _, [], hW', trodAll_mk1 (shut_bool Tryd.underlying4 _), (trodAll_cons_mk (Below.trod laidOut (by kernel_rfl) (of_decide_eq_true (by kernel_rfl)) k0 bel lt0) trodAll_mk0), rfl, bel.frame _, fun h => by cases h⟩

theorem over : Rows.fnExactSortedRow.holds Tryd.pinned (OpenSpec.ofChange Rows.fnExactSortedSpec) :=
  OpenClaim.holds_of_wide 3 Tryd.f3 rfl rfl rfl rfl rfl rfl rfl ⟨rfl, rfl, rfl, rfl, rfl⟩ rfl rfl rfl rfl rfl (by kernel_rfl) Tryd.func3 (by kernel_rfl)
    (of_decide_eq_true (by kernel_rfl)) (by unfold Func.isWrapper; first | (rw [if_pos (by decide +kernel)]; kernel_rfl) | (rw [if_neg (by decide +kernel)]; exact ⟨rfl, rfl⟩))
    (fun os started H enc _ => lifted os started H enc)

theorem proved : Rows.FnExactSortedCardSaid :=
  Claim7.holds_tied_plain_at .later [] _ _ _ _ over (fun _ h => by cases h) (by kernel_rfl) (fun _ h => by cases h) fnExactSorted_row_tie rfl ⟨rfl, rfl⟩ (by kernel_rfl) rfl
    (fun f fn hf hfn => by
      obtain rfl : f = 3 := Option.some.inj ((show Tryd.prog.funcNamed "loop.example/g00421/laws.FnExactSorted" = some 3 by kernel_rfl).symm.trans hf) |>.symm
      obtain rfl : fn = Tryd.f3 := (Option.some.inj (Tryd.func3.symm.trans hfn)).symm
      exact ⟨by kernel_rfl, fun j t ht => by
        rw [Tryd.params3] at ht
        have hm : t ∈ [24] := by simpa using Array.mem_of_getElem? ht
        have hall : ([24].all fun u => !Tryd.prog.wantsStandIn u) = true := by kernel_rfl
        exact (show Tryd.prog.wantsStandIn t = false by simpa using List.all_eq_true.1 hall t hm)⟩)
    (by kernel_rfl)
end Go.Proofs.YtcjamnfboifjeaaDoor.fnExactSorted
