/-
  A value of the laws turned into one of the program: the same tree, in new memory.
-/
import Derived.Test.YtbflkcldjjpioaaDoorTree
namespace Go.Proofs.YtbflkcldjjpioaaDoor
open Go.RowKit
set_option linter.unusedVariables false
set_option maxRecDepth 100000
set_option linter.unusedSimpArgs false

theorem infoV : (Tryd.prog.info? 34).map (fun i => (i.zero, i.size, i.bytes)) = some (some (.agg #[.int .i64 0, .int .i64 0, .int .i64 0, .string ⟨#[]⟩, .slice none 0 0]), 5, 64) := by kernel_rfl

def ToSaid (v : V) : Prop := ∀ (A : Option Addr) (cap : Nat) (w : World), v.nodes ≤ 1048577 → Vs.at_ w 0 w.heap.size v.kids A →
    Calls Tryd.prog 15 #[v.agg A cap] w fun e w' => ∃ A' c', e = .returned (v.agg A' c') ∧ v.kids.length ≤ c' ∧ Vs.at_ w' w.heap.size w'.heap.size v.kids A' ∧ Below w.heap.size w w'
def ToSSaid (l : List V) : Prop := ∀ (A : Option Addr) (cap : Nat) (w : World), l.length ≤ 1048576 → Vs.nodes l ≤ 1048576 → Vs.at_ w 0 w.heap.size l A →
    Calls Tryd.prog 31 #[.slice A l.length cap] w fun e w' => ∃ A' c', e = .returned (.slice A' l.length c') ∧ l.length ≤ c' ∧ Vs.at_ w' w.heap.size w'.heap.size l A' ∧ Below w.heap.size w w'

set_option maxHeartbeats 1000000 in
theorem to_step (v : V) (hk : ToSSaid v.kids) : ToSaid v := by
  intro A cap w hn hat
  rw [V.nodes_eq] at hn
  have hl : v.kids.length ≤ 1048576 := by have := Vs.len_nodes v.kids; omega
  have HK := fun (c : Nat) (w' : World) (hat' : Vs.at_ w' 0 w'.heap.size v.kids A) => hk A c w' hl (by omega) hat'
  have HC := Lib.hid HK
  clear HK hk
  unfold V.agg
  go_enter Tryd.func15, Tryd.ntmps15
  go_wp2_with fail
  refine (HC.out _ _ (Vs.at_more (Nat.le_refl _) (by simp; omega) _ _ (Vs.at_keep (fun p _ hp => by rw [World.cell?_alloc_lt _ _ _ (by simp; omega), World.cell?_alloc_lt _ _ _ (by simp; omega), World.cell?_alloc_lt _ _ _ hp]) _ _ hat))).mono ?_
  rintro e w1 ⟨A', c', rfl, hc', hat1, hb1⟩
  have B2 := (Blk.new ((w.alloc _).alloc _) _ _).below hb1 (by simp)
  have B1 := ((Blk.new (w.alloc _) _ _).alloc _).below hb1 (by simp)
  simp only [World.size_alloc] at B1 B2 hb1 hat1
  have c20 : w1.cell? ⟨w.heap.size + 1 + 1, 0, none⟩ = some (.int .i64 v.k) := B2.cell 0
  have c21 : w1.cell? ⟨w.heap.size + 1 + 1, 1, none⟩ = some (.int .i64 v.n) := B2.cell 1
  have c22 : w1.cell? ⟨w.heap.size + 1 + 1, 2, none⟩ = some (.int .i64 v.e) := B2.cell 2
  have c23 : w1.cell? ⟨w.heap.size + 1 + 1, 3, none⟩ = some (.string v.s) := B2.cell 3
  have c24 : w1.cell? ⟨w.heap.size + 1 + 1, 4, none⟩ = some (.slice none 0 0) := B2.cell 4
  have f24 := B2.frozen 4
  have c10 : w1.cell? ⟨w.heap.size + 1, 0, none⟩ = some (.int .i64 0) := B1.cell 0
  have c11 : w1.cell? ⟨w.heap.size + 1, 1, none⟩ = some (.int .i64 0) := B1.cell 1
  have c12 : w1.cell? ⟨w.heap.size + 1, 2, none⟩ = some (.int .i64 0) := B1.cell 2
  have c13 : w1.cell? ⟨w.heap.size + 1, 3, none⟩ = some (.string ⟨#[]⟩) := B1.cell 3
  have c14 : w1.cell? ⟨w.heap.size + 1, 4, none⟩ = some (.slice none 0 0) := B1.cell 4
  have f10 := B1.frozen 0
  have f11 := B1.frozen 1
  have f12 := B1.frozen 2
  have f13 := B1.frozen 3
  have f14 := B1.frozen 4
  clear B1 B2 hat
  have hbw : Below w.heap.size w w1 := ((((Below.refl _ w).alloc (Nat.le_refl _) _).alloc (by simp) _).alloc (by simp; omega) _).trans (hb1.mono (by omega))
  have hs1 : w.heap.size + 1 + 1 + 1 ≤ w1.heap.size := by have := hb1.size; simpa using this
  have HB := Lib.hid hbw
  have HA := Lib.hid hat1
  clear hbw hat1 hb1 HC
  go_wp2_with fail
  refine bodyPost_ret (v := .agg #[.int .i64 v.k, .int .i64 v.n, .int .i64 v.e, .string v.s, .slice A' v.kids.length c']) (by simp [results, Tryd.results15, go_sem, c20, c21, c22, c23, c10, c11, c12, c13, c14]) rfl ⟨A', c', rfl, hc', ?_, ?_⟩
  · simp only [World.size_setCell]
    exact Vs.at_more (by omega) (Nat.le_refl _) _ _ (Vs.at_set (Vs.at_set (Vs.at_set (Vs.at_set (Vs.at_set (Vs.at_set HA.out (.inl (by simp))) (.inl (by simp))) (.inl (by simp))) (.inl (by simp))) (.inl (by simp))) (.inl (by simp)))
  · exact ((((((HB.out.setCell (by simp; try omega) _).setCell (by simp; try omega) _).setCell (by simp; try omega) _).setCell (by simp; try omega) _).setCell (by simp; try omega) _).setCell (by simp; try omega) _)

/-- What the loop has laid: the first j elements. -/
def ToRel (l : List V) (w : World) (j : Nat) (wr : World) : Prop :=
  (∃ xs, wr.ownsRow w.heap.size 34 5 (.slice (some ⟨w.heap.size, 0, none⟩) l.length l.length) l.length xs) ∧ Below w.heap.size w wr ∧
  ∀ i (h : i < l.length), i < j → ∃ A' cap, (l[i]).kids.length ≤ cap ∧ CellsAt wr w.heap.size (0 + i * 5) l[i] A' cap ∧ Vs.at_ wr (w.heap.size + 1) wr.heap.size (l[i]).kids A'

theorem to_next {l : List V} {w wr w2 : World} {j : Nat} (hlt : j < l.length) (hb : Below w.heap.size w wr)
    (hrow : ∀ i (h : i < l.length), i < j → ∃ A' cap, (l[i]).kids.length ≤ cap ∧ CellsAt wr w.heap.size (0 + i * 5) l[i] A' cap ∧ Vs.at_ wr (w.heap.size + 1) wr.heap.size (l[i]).kids A')
    (hb2 : Below wr.heap.size wr w2) {xs : List Value} (hown : w2.ownsRow w.heap.size 34 5 (.slice (some ⟨w.heap.size, 0, none⟩) l.length l.length) l.length xs)
    {A2 : Option Addr} {c2 : Nat} (hat : Vs.at_ w2 wr.heap.size w2.heap.size (l[j]).kids A2) (hc : (l[j]).kids.length ≤ c2) {u0 u1 u2 u3 u4 : Value}
    (h0 : w2.cell? ⟨w.heap.size, j * 5, none⟩ = some u0) (h1 : w2.cell? ⟨w.heap.size, j * 5 + 1, none⟩ = some u1) (h2 : w2.cell? ⟨w.heap.size, j * 5 + 2, none⟩ = some u2) (h3 : w2.cell? ⟨w.heap.size, j * 5 + 3, none⟩ = some u3) (h4 : w2.cell? ⟨w.heap.size, j * 5 + 4, none⟩ = some u4) (hg : w.heap.size < wr.heap.size := by assumption) :
    ToRel l w (j + 1) (put5 w2 w.heap.size (j * 5) l[j] A2 c2) := by
  refine ⟨put5_own hown, put5_below (hb.trans (hb2.mono hb.size)) (Nat.le_refl _), fun i hi hij => ?_⟩
  rw [put5_size]
  have sub : ∀ (A : Option Addr) (k : List V) (lo hi : Nat), w.heap.size < lo → Vs.at_ w2 lo hi k A → Vs.at_ (put5 w2 w.heap.size (j * 5) l[j] A2 c2) lo hi k A := fun A k lo hi hl h =>
    Vs.at_keep (fun p hp _ => put5_other (.inl (by omega))) k A h
  by_cases he : i = j
  · subst he
    rw [Nat.zero_add]
    exact ⟨A2, c2, hc, put5_at h0 h1 h2 h3 h4, Vs.at_more (by omega) (Nat.le_refl _) _ _ (sub _ _ _ _ hg hat)⟩
  · obtain ⟨A', cap, r1, r2, r3⟩ := hrow i hi (by omega)
    have hlt2 : wr.heap.size ≤ w2.heap.size := hb2.size
    refine ⟨A', cap, r1, r2.keep fun q hq => ?_, sub _ _ _ _ (by omega) (Vs.at_more (Nat.le_refl _) hlt2 _ _ (Vs.at_below r3 hb2 (Nat.le_refl _)))⟩
    rw [put5_other (.inr (.inl (by show 0 + i * 5 + q < j * 5; omega)))]
    exact hb2.cell (p := ⟨w.heap.size, 0 + i * 5 + q, none⟩) hg

set_option maxHeartbeats 1000000 in
theorem toS_step (l : List V) (hk : ∀ i (h : i < l.length), ToSaid l[i]) : ToSSaid l := by
  intro A cap w hl hn hat
  have HK := fun (i : Nat) (h : i < l.length) (A' : Option Addr) (c : Nat) (w' : World) (hat' : Vs.at_ w' 0 w'.heap.size (l[i]).kids A') => hk i h A' c w' (by have := Vs.nodes_get i h; omega) hat'
  have HC := Lib.hid HK
  clear HK hk
  obtain ⟨i0, hi, hz0, hz1, hz2⟩ := info_parts infoV
  go_enter Tryd.func31, Tryd.ntmps31
  go_wp2_with (at_make; refine wpList_make_full _ rfl _ _ 32 rfl w.heap.size 34 i0 _ 5 Tryd.underlying32 hi hz0 hz1 _ _ _ _ l.length rfl rfl (by omega) (by omega) ?b1 ?b2 ?b3 ?_)
  case b1 => rw [hz2]; omega
  case b2 => unfold maxLen; omega
  case b3 => omega
  intro w1 hown1 hg1
  go_wp2_with fail
  go_loopw [4] (fun i wr => ∃ j : Nat, j ≤ l.length ∧ i = .int .i64 j ∧ ToRel l w j wr) (fun i _ => l.length - (intOf i).toNat)
  case atStart => exact ⟨0, Nat.zero_le _, rfl, ⟨_, hown1⟩, (Below.refl _ _).grown hg1 (Nat.le_refl _) (fun k h => by cases h), fun i h h' => absurd h' (by omega)⟩
  case round =>
    obtain ⟨j, hj, rfl, ⟨xs, hown⟩, hb, hrow⟩ := hrel
    have HR := Lib.hid hrow
    have hgr : w.heap.size < wr.heap.size := (hown.lt _ rfl).2
    clear hrow
    by_cases hlt : j < l.length
    · obtain ⟨b, off, A', cap', rfl, g1, g2, g3, ⟨c0, c1, c2, c3, c4⟩, g5⟩ := Vs.at_get j hlt (Vs.at_below hat hb (Nat.le_refl _))
      go_wp2_with fail
      refine (HC.out j hlt A' cap' _ (Vs.at_more (Nat.le_refl _) hb.size _ _ g5)).mono ?_
      rintro e w2 ⟨A2, c2', rfl, hc2, hat2, hb2⟩
      unfold V.agg
      have hown2 := own_below hown hb2
      have hxl := hown2.1
      have cq : ∀ q, q < 5 → ∃ u, w2.cell? ⟨w.heap.size, j * 5 + q, none⟩ = some u := fun q hq => ⟨_, (hown2.cellAt (j * 5 + q) (by omega)).trans (List.getElem?_eq_getElem (by omega))⟩
      obtain ⟨u0, d0⟩ := cq 0 (by omega)
      obtain ⟨u1, d1⟩ := cq 1 (by omega)
      obtain ⟨u2, d2⟩ := cq 2 (by omega)
      obtain ⟨u3, d3⟩ := cq 3 (by omega)
      obtain ⟨u4, d4⟩ := cq 4 (by omega)
      simp only [Nat.add_zero] at d0
      have k0 := hown2.frozenAt (j * 5)
      have k1 := hown2.frozenAt (j * 5 + 1)
      have k2 := hown2.frozenAt (j * 5 + 2)
      have k3 := hown2.frozenAt (j * 5 + 3)
      have k4 := hown2.frozenAt (j * 5 + 4)
      have HO := Lib.hid hown2
      have HA := Lib.hid hat2
      have HB2 := Lib.hid hb2
      clear c0 c1 c2 c3 c4 cq hxl hown2 hat2 hb2 hown
      go_wp2_with fail
      go_roundw
      case rel => exact ⟨j + 1, by omega, by go_num, to_next hlt hb HR.out HB2.out HO.out HA.out hc2 d0 d1 d2 d3 d4⟩
      case measure => simp [intOf]; omega
    · obtain rfl : j = l.length := by omega
      go_wp2_with fail
      go_ret
      refine ⟨_, _, rfl, Nat.le_refl _, Vs.at_of (Nat.le_refl _) (hown.lt _ rfl).2 l 0 fun i hi => ?_, hb⟩
      obtain ⟨A', cap, r1, r2, r3⟩ := HR.out i hi hi
      exact ⟨A', cap, r1, r2, Vs.at_more (Nat.le_succ _) (Nat.le_refl _) _ _ r3⟩

theorem to_all : ∀ (N : Nat), (∀ l : List V, Vs.nodes l ≤ N → ToSSaid l) := by
  intro N
  induction N with
  | zero =>
    intro l h
    refine toS_step l fun i hi => ?_
    have h1 := Vs.nodes_get i hi
    have h2 := V.nodes_pos l[i]
    omega
  | succ N ih =>
    intro l h
    refine toS_step l fun i hi => to_step _ (ih _ ?_)
    have h1 := Vs.nodes_get i hi
    rw [V.nodes_eq] at h1
    omega
theorem toValue_any (v : V) : ToSaid v := to_step v (to_all _ _ (Nat.le_refl _))
end Go.Proofs.YtbflkcldjjpioaaDoor
