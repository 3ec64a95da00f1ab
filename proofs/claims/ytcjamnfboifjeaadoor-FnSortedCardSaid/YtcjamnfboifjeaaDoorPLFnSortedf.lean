/-
  The texts on which the last one leans, part 6: PairsR, MapO, SortV, PermK, FitM, RightJ, PutSignS, GetSign, SignsS, Tabs, Signs, RightN, RightN4, RightK, RightP, RightV, FitO, SrtL, Deep, KeepT, Walk, Caps, Tv.
-/
import Derived.Test.YtcjamnfboifjeaaDoorPLFnSortede
import Derived.BigQuiet
import Derived.Deep.RegionHeld3
import Derived.Shelf.Unicode.DecodeSlow
import Derived.Test.YtcjamnfboifjeaaDoorShelfV
import Derived.RegionTactic
import Derived.BigRegion
import Derived.ChangeAlike
import Derived.StillTailTactics
import Derived.OneCell
import Derived.Shelf.Abstract
/-
  The pairs of a map's kids.
-/
namespace Go.Proofs.YtcjamnfboifjeaaDoor
open Go.RowKit
set_option linter.unusedVariables false
set_option linter.unusedSimpArgs false
set_option maxRecDepth 100000

theorem infoP : (Tryd.prog.info? 79).map (fun i => (i.zero, i.size, i.bytes)) = some (some (.agg #[.int .i64 0, .int .i64 0, .int .i64 0, .string ⟨#[]⟩, .slice none 0 0, .int .i64 0, .int .i64 0, .int .i64 0, .string ⟨#[]⟩, .slice none 0 0]), 10, 128) := by kernel_rfl
def pairsL : List Ent → List PEnt
  | a :: b :: r => (a, b) :: pairsL r
  | _ => []
theorem pairsL_len : ∀ es : List Ent, (pairsL es).length = es.length / 2
  | [] => rfl
  | [_] => by simp [pairsL]
  | a :: b :: r => by simp only [pairsL, List.length_cons]; rw [pairsL_len r]; omega
theorem pairsL_at : ∀ (es : List Ent) (j : Nat) (h : 2 * j + 1 < es.length), (pairsL es)[j]? = some (es[2 * j], es[2 * j + 1])
  | a :: b :: r, 0, h => rfl
  | a :: b :: r, j + 1, h => by
    have h2 : 2 * j + 1 < r.length := by simp at h; omega
    simp only [pairsL, List.getElem?_cons_succ]
    rw [pairsL_at r j h2]
    congr 2
theorem pent_ones (x : PEnt) : ∀ u ∈ x.cells, u.oneCell' = true := by
  intro u hu
  simp [PEnt.cells, Ent.cells] at hu
  rcases hu with rfl | rfl | rfl | rfl | rfl | rfl | rfl | rfl | rfl | rfl <;> rfl
/-- What collecting the pairs has laid. -/
def PaRel (v : V) (B : Option Addr) (cB : Nat) (es : List Ent) (w : World) (o i : Value) (wr : World) : Prop :=
  ∃ (j jn : Nat) (A : Option Addr) (c : Nat), i = .int .i64 (jn : Int) ∧ jn ≤ 1000 ∧ Hid (jn = 2 * j ∧ j ≤ es.length / 2) ∧ o = .slice A j c ∧ Hid (wr.ownsRow (w.heap.size + 1) 79 10 o j (flatP ((pairsL es).take j))) ∧ Hid (Blk wr w.heap.size 28 #[.int .i64 v.k, .int .i64 v.n, .int .i64 v.e, .string v.s, .slice B es.length cB]) ∧ Hid (Below w.heap.size w wr) ∧ Hid (w.heap.size < wr.heap.size)
theorem PaRel.next {v : V} {B : Option Addr} {cB : Nat} {es : List Ent} {w wr w2 w8 : World} {j jn : Nat} {A : Option Addr} {c g c2 : Nat} {x y : Ent} (hlt : jn + 1 < es.length) (hn : es.length ≤ 900)
    (HJ : jn = 2 * j ∧ j ≤ es.length / 2) (HAT : (pairsL es).take (j + 1) = (pairsL es).take j ++ [(x, y)]) (HO : wr.ownsRow (w.heap.size + 1) 79 10 (.slice A j c) j (flatP ((pairsL es).take j)))
    (HB : Blk wr w.heap.size 28 #[.int .i64 v.k, .int .i64 v.n, .int .i64 v.e, .string v.s, .slice B es.length cB]) (HW : Below w.heap.size w wr) (HS : w.heap.size < wr.heap.size)
    (h2 : Below wr.heap.size wr w2) (hown' : w8.ownsRow (w.heap.size + 1) 79 10 (.slice (some ⟨g, 0, none⟩) (j + 1) c2) (j + 1) (flatP ((pairsL es).take j) ++ PEnt.cells (x, y)))
    (hgr : w2.grownBy w8 (Value.slice A j c).ownBlock) : PaRel v B cB es w (.slice (some ⟨g, 0, none⟩) (j + 1) c2) (.int .i64 ((jn : Int) + 2)) w8 := by
  have hlow : ∀ k, (Value.slice A j c).ownBlock = some k → w.heap.size + 1 ≤ k := fun k hk => (HO.lt k hk).1
  have e2 := HB.below h2 HB.lt
  have hz := h2.size
  refine ⟨j + 1, jn + 2, some ⟨g, 0, none⟩, c2, by go_num, by omega, Lib.hid ⟨by omega, by omega⟩, rfl, Lib.hid ?_, Lib.hid ((hgr.block _ e2.lt fun e => ?_).trans e2), Lib.hid ((HW.trans (h2.mono (Nat.le_of_lt HS))).grown hgr (by omega) (fun k hk => by have := hlow k hk; omega)), Lib.hid (by have := hgr.size; omega)⟩
  · rw [HAT, flatP_app]
    simpa [flatP] using hown'
  · have := hlow _ e.symm
    omega
set_option maxHeartbeats 4000000 in
theorem pairsOf (v : V) (B : Option Addr) (cB : Nat) (es : List Ent) (w : World) (hn : es.length ≤ 900) (hcell : ∀ q, q < es.length * 5 → ∃ g0, B = some ⟨g0, 0, none⟩ ∧ g0 < w.heap.size ∧ w.cell? ⟨g0, q, none⟩ = (flat es)[q]?) :
    Calls Tryd.prog 74 #[.agg #[.int .i64 v.k, .int .i64 v.n, .int .i64 v.e, .string v.s, .slice B es.length cB]] w fun e w' => ∃ A c, e = .returned (.slice A (es.length / 2) c) ∧ w'.ownsRow (w.heap.size + 1) 79 10 (.slice A (es.length / 2) c) (es.length / 2) (flatP (pairsL es)) ∧ Below w.heap.size w w' := by
  have HC := Lib.hid hcell
  obtain ⟨i0, hi, hz0, hz1, hz2⟩ := info_parts infoP
  clear hcell
  go_enter Tryd.func74, Tryd.ntmps74
  go_wp2_with fail
  go_loopw [3, 4] (fun o i wr => PaRel v B cB es w o i wr) (fun _ i _ => es.length + 2 - (intOf i).toNat)
  case atStart =>
    have hz : (w.alloc (.cells #[.int .i64 v.k, .int .i64 v.n, .int .i64 v.e, .string v.s, .slice B es.length cB] 28)).heap.size = w.heap.size + 1 := by simp
    have ho := own_empty (w.alloc (.cells #[.int .i64 v.k, .int .i64 v.n, .int .i64 v.e, .string v.s, .slice B es.length cB] 28)) 79 10
    rw [hz] at ho
    exact ⟨0, 0, some ⟨w.heap.size + 1, 0, none⟩, 0, rfl, by omega, Lib.hid ⟨rfl, Nat.zero_le _⟩, rfl, Lib.hid ho, Lib.hid ((Blk.new w 28 _).alloc _), Lib.hid (((Below.refl _ w).alloc (Nat.le_refl _) _).alloc (by simp) _), Lib.hid (by simp; omega)⟩
  case round =>
    obtain ⟨j, jn, A, c, rfl, hj, HJ, rfl, HO, HB, HW, HS⟩ := hrel
    obtain ⟨b0, b1, b2, b3, b4⟩ := HB.out.five
    by_cases hlt : jn + 1 < es.length
    · have hlt2 : (jn : Int) + 1 < (es.length : Int) := by omega
      obtain ⟨g0, hg0, hgl, _⟩ := HC.out 0 (by omega)
      have hcl : ∀ (k q : Nat) (h : k < es.length), q < 5 → wr.cell? ⟨g0, k * 5 + q, none⟩ = (es[k].cells)[q]? := fun k q h hq => by
        obtain ⟨g1, e1, e2, e3⟩ := HC.out (k * 5 + q) (by omega)
        have : g1 = g0 := by rw [hg0] at e1; injection e1 with e1; injection e1 with e1; exact e1.symm
        subst this
        rw [HW.out.cell (show (⟨g1, k * 5 + q, none⟩ : Addr).block < w.heap.size from e2), e3, flat_at es k q h hq]
      have hj0 : jn < es.length := by omega
      obtain ⟨x, hx⟩ : ∃ x, es[jn]'hj0 = x := ⟨_, rfl⟩
      obtain ⟨y, hy⟩ : ∃ y, es[jn + 1]'hlt = y := ⟨_, rfl⟩
      have kx : ∀ q, q < 5 → wr.cell? ⟨g0, jn * 5 + q, none⟩ = (es[jn].cells)[q]? := fun q hq => hcl jn q hj0 hq
      have ky : ∀ q, q < 5 → wr.cell? ⟨g0, (jn + 1) * 5 + q, none⟩ = (es[jn + 1].cells)[q]? := fun q hq => hcl (jn + 1) q hlt hq
      rw [hx] at kx
      rw [hy] at ky
      have x0 : wr.cell? ⟨g0, jn * 5, none⟩ = some (.int .i64 x.1.k) := kx 0 (by omega)
      have x1 : wr.cell? ⟨g0, jn * 5 + 1, none⟩ = some (.int .i64 x.1.n) := kx 1 (by omega)
      have x2 : wr.cell? ⟨g0, jn * 5 + 2, none⟩ = some (.int .i64 x.1.e) := kx 2 (by omega)
      have x3 : wr.cell? ⟨g0, jn * 5 + 3, none⟩ = some (.string x.1.s) := kx 3 (by omega)
      have x4 : wr.cell? ⟨g0, jn * 5 + 4, none⟩ = some (.slice x.2.1 x.1.kids.length x.2.2) := kx 4 (by omega)
      have y0 : wr.cell? ⟨g0, (jn + 1) * 5, none⟩ = some (.int .i64 y.1.k) := ky 0 (by omega)
      have y1 : wr.cell? ⟨g0, (jn + 1) * 5 + 1, none⟩ = some (.int .i64 y.1.n) := ky 1 (by omega)
      have y2 : wr.cell? ⟨g0, (jn + 1) * 5 + 2, none⟩ = some (.int .i64 y.1.e) := ky 2 (by omega)
      have y3 : wr.cell? ⟨g0, (jn + 1) * 5 + 3, none⟩ = some (.string y.1.s) := ky 3 (by omega)
      have y4 : wr.cell? ⟨g0, (jn + 1) * 5 + 4, none⟩ = some (.slice y.2.1 y.1.kids.length y.2.2) := ky 4 (by omega)
      have HAT : Hid ((pairsL es).take (j + 1) = (pairsL es).take j ++ [(x, y)]) := Lib.hid (by
        have h1 := HJ.out.1
        subst h1
        have h2 := pairsL_at es j hlt
        rw [hx, hy] at h2
        obtain ⟨h3, h4⟩ := List.getElem?_eq_some_iff.1 h2
        rw [List.take_succ_eq_append_getElem h3, h4])
      subst hg0
      have p0 : (0 : Int) ≤ (jn : Int) + 1 := by omega
      have hwj : IntKind.i64.wrap ((jn : Int) + 1) = (jn : Int) + 1 := by rw [IntKind.wrap_i64]; omega
      have hwj2 : IntKind.i64.wrap ((jn : Int) + 2) = (jn : Int) + 2 := by rw [IntKind.wrap_i64]; omega
      have htn : ((jn : Int) + 1).toNat = jn + 1 := by omega
      have hjn2 : (jn : Int) < (es.length : Int) := by omega
      have HN := Lib.hid (cells_newD wr (PEnt.cells (x, y)).toArray 79)
      have hjs : j ≤ 450 := by have := HJ.out; omega
      have hbase : w.heap.size + 1 ≤ wr.heap.size := HS.out
      have hHD := HS.out
      have hsz : w.heap.size < wr.heap.size := HS.out
      clear kx ky hcl hx hy
      go_upto_region 5 with fail
      go_region_law (first
        | (refine step_append_lies _ (by rfl) (.tmp 14) (.tmp 27) 75 (by rfl) (w.heap.size + 1) 79 i0 _ 10 128 Tryd.underlying75 hi hz0 hz1 hz2 (by rfl) (by omega) (.slice A j c) j (flatP ((pairsL es).take j)) (by rfl) ((HO.out.alloc _).drew) ⟨wr.heap.size, 0, none⟩ 1 1 (PEnt.cells (x, y)) (by rfl) (by rfl) HN.out (pent_ones _) (by omega) (by unfold maxLen; omega) (by omega) (by simp; omega) _ rfl ?_
           intro g c2 w8 hown' hgr hat hlt'))
      all_goals
        go_wp2_with fail
        go_roundw
        case rel => exact PaRel.next hlt hn HJ.out HAT.out HO.out HB.out HW.out HS.out (((Below.refl _ _).alloc (Nat.le_refl _) _).drew) hown' hgr
        case measure => simp [intOf]; omega
    · have hge : ¬ (jn : Int) + 1 < (es.length : Int) := by omega
      have hje : j = es.length / 2 := by have := HJ.out; omega
      have hwj : IntKind.i64.wrap ((jn : Int) + 1) = (jn : Int) + 1 := by rw [IntKind.wrap_i64]; omega
      have htk : (pairsL es).take j = pairsL es := by rw [hje, ← pairsL_len]; exact List.take_length
      have HTK := Lib.hid htk
      have HJE := Lib.hid hje
      clear hje htk
      go_wp2_with fail
      refine bodyPost_ret (v := .slice A j c) (by simp [results, Tryd.results74, go_sem]) rfl ⟨A, c, ?_, ?_, HW.out⟩
      · rw [HJE.out]
      · have h := HO.out
        rw [HTK.out] at h
        rw [← HJE.out]
        exact h
end Go.Proofs.YtcjamnfboifjeaaDoor

/-
  The map of sorted pairs.
-/
namespace Go.Proofs.YtcjamnfboifjeaaDoor
open Go.RowKit
set_option linter.unusedVariables false
set_option linter.unusedSimpArgs false
set_option maxRecDepth 100000

/-- What the loop has laid. -/
def MaRel (d : List PEnt) (w : World) (i : Value) (wr : World) : Prop :=
  ∃ (j : Nat) (A : Option Addr) (cA : Nat), i = .int .i64 (j : Int) ∧ j ≤ d.length ∧ Hid (wr.ownsRow (w.heap.size + 2) 28 5 (.slice A (2 * j) cA) (2 * j) (flatP (d.take j))) ∧ Hid (Blk wr w.heap.size 28 #[.int .i64 0, .int .i64 0, .int .i64 0, .string ⟨#[]⟩, .slice none 0 0]) ∧ Hid (Blk wr (w.heap.size + 1) 28 #[.int .i64 8, .int .i64 0, .int .i64 0, .string ⟨#[]⟩, .slice A (2 * j) cA]) ∧ Hid (Below w.heap.size w wr) ∧ Hid (w.heap.size + 1 < wr.heap.size)
theorem MaRel.far {d : List PEnt} {w wr w2 w8 : World} {j : Nat} {A : Option Addr} {cA : Nat} (HO : wr.ownsRow (w.heap.size + 2) 28 5 (.slice A (2 * j) cA) (2 * j) (flatP (d.take j)))
    {p : Nat} {cs : Array Value} (hp : p < w.heap.size + 2) (HB : Blk wr p 28 cs) (h2 : Below wr.heap.size wr w2) (hgr : w2.grownBy w8 (Value.slice A (2 * j) cA).ownBlock) : Blk w8 p 28 cs := by
  have e2 := HB.below h2 HB.lt
  exact (hgr.block _ e2.lt fun e => by have := (HO.lt _ e.symm).1; omega).trans e2
theorem MaRel.next {d : List PEnt} {w wr w2 w8 : World} {j c2 : Nat} {A A2 : Option Addr} {cA : Nat} {x : PEnt} (hlt : j < d.length) (hd : d.length ≤ 450) (HAT : d.take (j + 1) = d.take j ++ [x])
    (HO : wr.ownsRow (w.heap.size + 2) 28 5 (.slice A (2 * j) cA) (2 * j) (flatP (d.take j)))
    (HB0 : Blk wr w.heap.size 28 #[.int .i64 0, .int .i64 0, .int .i64 0, .string ⟨#[]⟩, .slice none 0 0]) (HB1 : Blk wr (w.heap.size + 1) 28 #[.int .i64 8, .int .i64 0, .int .i64 0, .string ⟨#[]⟩, .slice A (2 * j) cA])
    (HW : Below w.heap.size w wr) (HS : w.heap.size + 1 < wr.heap.size) (h2 : Below wr.heap.size wr w2)
    (hown' : w8.ownsRow (w.heap.size + 2) 28 5 (.slice A2 (2 * j + 2) c2) (2 * j + 2) (flatP (d.take j) ++ PEnt.cells x)) (hgr : w2.grownBy w8 (Value.slice A (2 * j) cA).ownBlock) :
    MaRel d w (.int .i64 ((j : Int) + 1)) (w8.setCell ⟨w.heap.size + 1, 4, none⟩ (.slice A2 (2 * j + 2) c2)) := by
  have hlow : ∀ k, (Value.slice A (2 * j) cA).ownBlock = some k → w.heap.size + 2 ≤ k := fun k hk => (HO.lt k hk).1
  have r0 := MaRel.far HO (by omega) HB0 h2 hgr
  have r1 := MaRel.far HO (by omega) HB1 h2 hgr
  have hz := h2.size
  have hzz := hgr.size
  refine ⟨j + 1, A2, c2, by go_num, hlt, Lib.hid ?_, Lib.hid ?_, Lib.hid ?_, Lib.hid (((HW.trans (h2.mono (by omega))).grown hgr (by omega) (fun k hk => by have := hlow k hk; omega)).setCell (by show w.heap.size ≤ w.heap.size + 1; omega) _), Lib.hid (by simp; omega)⟩
  · rw [HAT, flatP_app, show 2 * (j + 1) = 2 * j + 2 by omega]
    have h := hown'.kept (Gr.set (w.heap.size + 1) w8 4 (.slice A2 (2 * j + 2) c2)) (.inr (fun e => by have := (hown'.lt _ e).1; omega))
    simpa [flatP] using h
  · exact (((Gr.set (w.heap.size + 1) w8 4 (.slice A2 (2 * j + 2) c2))).block _ r0.lt (fun e => by injection e with e; omega)).trans r0
  · have h := r1.set 4 (.slice A2 (2 * j + 2) c2)
    rw [show 2 * (j + 1) = 2 * j + 2 by omega]
    simpa using h
set_option maxHeartbeats 4000000 in
theorem mapOf (d : List PEnt) (g c : Nat) (rest : List Value) (w : World) (hd : d.length ≤ 450) (hp : PRow w g d rest) :
    Calls Tryd.prog 77 #[.slice (some ⟨g, 0, none⟩) d.length c] w fun e w' => ∃ A cA, e = .returned (.agg #[.int .i64 8, .int .i64 0, .int .i64 0, .string ⟨#[]⟩, .slice A (2 * d.length) cA]) ∧ w'.ownsRow (w.heap.size + 2) 28 5 (.slice A (2 * d.length) cA) (2 * d.length) (flatP d) ∧ Below w.heap.size w w' := by
  have HP := Lib.hid hp
  have hgl := hp.lt
  obtain ⟨i0, hi, hz0, hz1, hz2⟩ := info_parts infoV
  clear hp
  go_enter Tryd.func77, Tryd.ntmps77
  go_wp2_with fail
  go_loopw [9] (fun i wr => MaRel d w i wr) (fun i _ => d.length - (intOf i).toNat)
  case atStart =>
    refine ⟨0, none, 0, rfl, Nat.zero_le _, Lib.hid ⟨rfl, .inl ⟨rfl, rfl⟩⟩, Lib.hid ((Blk.new w _ _).alloc _), Lib.hid ?_, Lib.hid (((Below.refl _ w).alloc (Nat.le_refl _) _).alloc (by simp) _), Lib.hid (by simp)⟩
    have h := Blk.new (w.alloc (.cells #[.int .i64 0, .int .i64 0, .int .i64 0, .string ⟨#[]⟩, .slice none 0 0] 28)) 28 #[.int .i64 8, .int .i64 0, .int .i64 0, .string ⟨#[]⟩, .slice none 0 0]
    simpa using h
  case round =>
    obtain ⟨j, A, cA, rfl, hj, HO, HB0, HB1, HW, HS⟩ := hrel
    obtain ⟨b0, b1, b2, b3, b4⟩ := HB1.out.five
    have e4 := HB1.out.frozen 4
    by_cases hlt : j < d.length
    · have hlt2 : (j : Int) < (d.length : Int) := by omega
      have HPr : PRow wr g d rest := Blk.below HP.out HW.out hgl
      have h10 := HPr.ten j hlt
      obtain ⟨x, hx⟩ : ∃ x, d[j]'hlt = x := ⟨_, rfl⟩
      have HAT : Hid (d.take (j + 1) = d.take j ++ [x]) := Lib.hid (by rw [List.take_succ_eq_append_getElem hlt, hx])
      rw [hx] at h10
      obtain ⟨x0, x1, x2, x3, x4, x5, x6, x7, x8, x9⟩ := h10
      clear HPr hx
      go_upto_region 5 with fail
      generalize hw5 : wr.alloc _ = w5
      have HQ : Blk w5 wr.heap.size 79 (PEnt.cells x).toArray := by rw [← hw5]; exact Blk.new wr 79 (PEnt.cells x).toArray
      have H5 : Hid (Below wr.heap.size wr w5) := Lib.hid (by rw [← hw5]; exact (Below.refl _ _).alloc (Nat.le_refl _) _)
      have hz5 : wr.heap.size < w5.heap.size := HQ.lt
      have hcq : ∀ q, w5.cell? ⟨wr.heap.size, q, none⟩ = (PEnt.cells x)[q]? := fun q => by rw [Blk.cell HQ, List.getElem?_toArray]
      have y0 : w5.cell? ⟨wr.heap.size, 0, none⟩ = some (.int .i64 x.1.1.k) := hcq 0
      have y1 : w5.cell? ⟨wr.heap.size, 1, none⟩ = some (.int .i64 x.1.1.n) := hcq 1
      have y2 : w5.cell? ⟨wr.heap.size, 2, none⟩ = some (.int .i64 x.1.1.e) := hcq 2
      have y3 : w5.cell? ⟨wr.heap.size, 3, none⟩ = some (.string x.1.1.s) := hcq 3
      have y4 : w5.cell? ⟨wr.heap.size, 4, none⟩ = some (.slice x.1.2.1 x.1.1.kids.length x.1.2.2) := hcq 4
      have y5 : w5.cell? ⟨wr.heap.size, 5, none⟩ = some (.int .i64 x.2.1.k) := hcq 5
      have y6 : w5.cell? ⟨wr.heap.size, 6, none⟩ = some (.int .i64 x.2.1.n) := hcq 6
      have y7 : w5.cell? ⟨wr.heap.size, 7, none⟩ = some (.int .i64 x.2.1.e) := hcq 7
      have y8 : w5.cell? ⟨wr.heap.size, 8, none⟩ = some (.string x.2.1.s) := hcq 8
      have y9 : w5.cell? ⟨wr.heap.size, 9, none⟩ = some (.slice x.2.2.1 x.2.1.kids.length x.2.2.2) := hcq 9
      have b5 : w5.cell? ⟨w.heap.size + 1, 4, none⟩ = some (.slice A (2 * j) cA) := by
        rw [H5.out.cell (show (⟨w.heap.size + 1, 4, none⟩ : Addr).block < wr.heap.size from HS.out)]; exact b4
      have HO5 := Lib.hid (own_below HO.out H5.out)
      have HN := Lib.hid (cells_new w5 (PEnt.cells x).toArray 28)
      have hHS := HS.out
      have hbase : w.heap.size + 2 ≤ w5.heap.size := by omega
      clear hcq x0 x1 x2 x3 x4 x5 x6 x7 x8 x9 b0 b1 b2 b3 b4 hw5 HQ
      go_wp2_with (at_builtin; refine wpList_app2 rfl (.tmp 14) (.tmp 19) 26 rfl (w.heap.size + 2) 28 Tryd.underlying26 infoV rfl (by decide) rfl (HO5.out.alloc _) (Nat.le_trans hbase (by simp)) _ 2 2 (PEnt.cells x) rfl rfl HN.out (pent_ones _) (by unfold maxLen; omega) (by omega) ?_; intro v' w8 hown' hgr hv'; obtain ⟨A2, c2, rfl⟩ := own_slice hown'; have h25 := Lib.hid (Below.trans H5.out ((Below.refl wr.heap.size w5).alloc (Nat.le_of_lt hz5) (Obj.cells (PEnt.cells x).toArray 28))); have B8 := Lib.hid (MaRel.far HO.out (by omega) HB1.out h25.out hgr); have q4 := (B8.out.five).2.2.2.2; have e8 := B8.out.frozen 4)
      go_roundw
      case rel => exact MaRel.next hlt hd HAT.out HO.out HB0.out HB1.out HW.out HS.out h25.out hown' hgr
      case measure => simp [intOf]; omega
    · have hje : j = d.length := by omega
      subst hje
      obtain ⟨c0, c1, c2, c3, c4⟩ := HB0.out.five
      have f0 := HB0.out.frozen 0
      have f1 := HB0.out.frozen 1
      have f2 := HB0.out.frozen 2
      have f3 := HB0.out.frozen 3
      have f4 := HB0.out.frozen 4
      clear hlt hj
      go_wp2_with fail
      have R : Blk (((((wr.setCell ⟨w.heap.size, 0, none⟩ (.int .i64 8)).setCell ⟨w.heap.size, 1, none⟩ (.int .i64 0)).setCell ⟨w.heap.size, 2, none⟩ (.int .i64 0)).setCell ⟨w.heap.size, 3, none⟩ (.string ⟨#[]⟩)).setCell ⟨w.heap.size, 4, none⟩ (.slice A (2 * d.length) cA)) w.heap.size 28 #[.int .i64 8, .int .i64 0, .int .i64 0, .string ⟨#[]⟩, .slice A (2 * d.length) cA] := by
        have h := ((((HB0.out.set 0 (.int .i64 8)).set 1 (.int .i64 0)).set 2 (.int .i64 0)).set 3 (.string ⟨#[]⟩)).set 4 (.slice A (2 * d.length) cA)
        simpa using h
      have RG : Gr w.heap.size wr (((((wr.setCell ⟨w.heap.size, 0, none⟩ (.int .i64 8)).setCell ⟨w.heap.size, 1, none⟩ (.int .i64 0)).setCell ⟨w.heap.size, 2, none⟩ (.int .i64 0)).setCell ⟨w.heap.size, 3, none⟩ (.string ⟨#[]⟩)).setCell ⟨w.heap.size, 4, none⟩ (.slice A (2 * d.length) cA)) := by
        repeat (first | exact Gr.refl _ _ | (refine Gr.trans ?_ (Gr.set _ _ _ _)))
      generalize (((((wr.setCell ⟨w.heap.size, 0, none⟩ (.int .i64 8)).setCell ⟨w.heap.size, 1, none⟩ (.int .i64 0)).setCell ⟨w.heap.size, 2, none⟩ (.int .i64 0)).setCell ⟨w.heap.size, 3, none⟩ (.string ⟨#[]⟩)).setCell ⟨w.heap.size, 4, none⟩ (.slice A (2 * d.length) cA)) = w9 at R RG ⊢
      clear c0 c1 c2 c3 c4
      obtain ⟨c0, c1, c2, c3, c4⟩ := R.five
      refine bodyPost_ret (v := .agg #[.int .i64 8, .int .i64 0, .int .i64 0, .string ⟨#[]⟩, .slice A (2 * d.length) cA]) (by simp [results, Tryd.results77, go_sem, c0, c1, c2, c3, c4]) rfl ⟨A, cA, rfl, ?_, ?_⟩
      · have h := HO.out
        rw [List.take_length] at h
        exact World.ownsRow.kept h RG (.inr (fun e => by have := (HO.out.lt _ e).1; omega))
      · exact HW.out.grown RG (by have := HS.out; omega) (fun k hk => by injection hk with hk; omega)
end Go.Proofs.YtcjamnfboifjeaaDoor

/-
  The sorted value: plain.
-/
namespace Go.Proofs.YtcjamnfboifjeaaDoor
set_option linter.unusedVariables false
set_option linter.unusedSimpArgs false

abbrev VP := V × V
def vle (x y : VP) : Prop := V.cmp x.1 y.1 ≤ 0
theorem vle_total (x y : VP) : vle x y ∨ vle y x := by have := V.cmp_swap x.1 y.1; unfold vle; omega
theorem vle_trans {x y z : VP} (h : vle x y) (k : vle y z) : vle x z := by
  have h1 := V.cmp_tri x.1 y.1 z.1
  unfold vle at *
  unfold Tri at h1
  omega
def insP (x : VP) : List VP → List VP
  | [] => [x]
  | y :: r => if V.cmp x.1 y.1 < 0 then x :: y :: r else y :: insP x r
theorem insP_perm (x : VP) : ∀ l, (insP x l).Perm (x :: l)
  | [] => List.Perm.refl _
  | y :: r => by
    unfold insP
    split
    · exact List.Perm.refl _
    · exact ((insP_perm x r).cons y).trans (List.Perm.swap x y r)
theorem insP_pw (x : VP) : ∀ l, l.Pairwise vle → (insP x l).Pairwise vle
  | [], _ => by simp [insP]
  | y :: r, h => by
    unfold insP
    rw [List.pairwise_cons] at h
    split
    · next hc =>
      have hxy : vle x y := by unfold vle; omega
      refine List.pairwise_cons.2 ⟨fun z hz => ?_, List.pairwise_cons.2 h⟩
      rcases List.mem_cons.1 hz with rfl | hz
      · exact hxy
      · exact vle_trans hxy (h.1 z hz)
    · next hc =>
      refine List.pairwise_cons.2 ⟨fun z hz => ?_, insP_pw x r h.2⟩
      have hm := (insP_perm x r).mem_iff.1 hz
      rcases List.mem_cons.1 hm with rfl | hm
      · have := V.cmp_swap z.1 y.1
        unfold vle
        omega
      · exact h.1 z hm
def sortP : List VP → List VP
  | [] => []
  | x :: r => insP x (sortP r)
theorem sortP_perm : ∀ l, (sortP l).Perm l
  | [] => List.Perm.refl _
  | x :: r => (insP_perm x _).trans ((sortP_perm r).cons x)
theorem sortP_pw : ∀ l, (sortP l).Pairwise vle
  | [] => List.Pairwise.nil
  | x :: r => insP_pw x _ (sortP_pw r)
/-- Two sorted orders of pairs whose keys differ are one. -/
theorem pw_uniq : ∀ (a b : List VP), a.Perm b → a.Pairwise vle → b.Pairwise vle → (∀ x ∈ a, ∀ y ∈ a, V.cmp x.1 y.1 = 0 → x = y) → a = b
  | [], b, h, _, _, _ => (List.Perm.nil_eq h)
  | x :: r, b, h, ha, hb, hk => by
    cases b with
    | nil => exact absurd h.length_eq (by simp)
    | cons y t =>
      rw [List.pairwise_cons] at ha hb
      have hy : y ∈ x :: r := h.mem_iff.2 List.mem_cons_self
      have hx : x ∈ y :: t := h.mem_iff.1 List.mem_cons_self
      have e : x = y := by
        rcases List.mem_cons.1 hy with e | hy'
        · exact e.symm
        · rcases List.mem_cons.1 hx with e | hx'
          · exact e
          · have h1 := ha.1 y hy'
            have h2 := hb.1 x hx'
            have h3 := V.cmp_swap x.1 y.1
            unfold vle at h1 h2
            exact hk x List.mem_cons_self y hy (by omega)
      subst e
      rw [pw_uniq r t ((List.perm_cons x).1 h) ha.2 hb.2 (fun u hu z hz => hk u (List.mem_cons_of_mem _ hu) z (List.mem_cons_of_mem _ hz))]
theorem sortP_uniq {l Z : List VP} (h : Z.Perm l) (hp : Z.Pairwise vle) (hk : ∀ x ∈ l, ∀ y ∈ l, V.cmp x.1 y.1 = 0 → x = y) : Z = sortP l :=
  pw_uniq _ _ (h.trans (sortP_perm l).symm) hp (sortP_pw l) fun x hx y hy => hk x (h.mem_iff.1 hx) y (h.mem_iff.1 hy)
/-- The pairs of a map's kids, and the kids of pairs. -/
def prs : List V → List VP
  | a :: b :: r => (a, b) :: prs r
  | _ => []
def unp : List VP → List V
  | [] => []
  | x :: r => x.1 :: x.2 :: unp r
mutual
/-- A value with the pairs of each map in order. -/
def V.srt : V → V
  | .mk k n e s ks => .mk k n e s (if k = 8 then unp (sortP (prs (Vs.srt ks))) else Vs.srt ks)
def Vs.srt : List V → List V
  | [] => []
  | v :: r => v.srt :: Vs.srt r
end
theorem Vs.srt_map : ∀ l, Vs.srt l = l.map V.srt
  | [] => by simp [Vs.srt]
  | v :: r => by simp only [Vs.srt, List.map_cons]; rw [Vs.srt_map r]
theorem V.srt_eq (v : V) : v.srt = .mk v.k v.n v.e v.s (if v.k = 8 then unp (sortP (prs (v.kids.map V.srt))) else v.kids.map V.srt) := by
  cases v with
  | mk k n e s ks =>
    rw [V.srt, Vs.srt_map]
    rfl
theorem prs_len : ∀ l : List V, (prs l).length = l.length / 2
  | [] => rfl
  | [_] => by simp [prs]
  | a :: b :: r => by simp only [prs, List.length_cons]; rw [prs_len r]; omega
theorem prs_at : ∀ (l : List V) (j : Nat) (h : 2 * j + 1 < l.length), (prs l)[j]? = some (l[2 * j], l[2 * j + 1])
  | a :: b :: r, 0, h => rfl
  | a :: b :: r, j + 1, h => by
    have h2 : 2 * j + 1 < r.length := by simp at h; omega
    simp only [prs, List.getElem?_cons_succ]
    rw [prs_at r j h2]
    congr 2
theorem unp_len : ∀ l : List VP, (unp l).length = 2 * l.length
  | [] => rfl
  | x :: r => by simp only [unp, List.length_cons]; rw [unp_len r]; omega
theorem unp_prs : ∀ l : List V, l.length % 2 = 0 → unp (prs l) = l
  | [], _ => rfl
  | [_], h => by simp at h
  | a :: b :: r, h => by simp only [prs, unp]; rw [unp_prs r (by simp only [List.length_cons] at h; omega)]
theorem prs_unp : ∀ l : List VP, prs (unp l) = l
  | [] => rfl
  | x :: r => by simp only [prs, unp]; rw [prs_unp r]
end Go.Proofs.YtcjamnfboifjeaaDoor

/-
  Rows of values in another order.
-/
namespace Go.Proofs.YtcjamnfboifjeaaDoor
open Go.RowKit
set_option linter.unusedVariables false
set_option linter.unusedSimpArgs false

theorem kidsLie_perm {w : World} {es es' : List Ent} (h : es.Perm es') : ∀ G, kidsLie w es G → ∃ G', G'.Perm G ∧ kidsLie w es' G' := by
  induction h with
  | nil => exact fun G h => ⟨G, List.Perm.refl _, h⟩
  | cons x _ ih =>
    intro G h
    simp only [kidsLie] at h
    obtain ⟨G1, G2, rfl, h1, h2, h3⟩ := h
    obtain ⟨G', p, k⟩ := ih G2 h3
    exact ⟨G1 ++ G', p.append_left G1, by simp only [kidsLie]; exact ⟨G1, G', rfl, h1, h2, k⟩⟩
  | swap x y l =>
    intro G h
    simp only [kidsLie] at h
    obtain ⟨G1, G2, rfl, h1, h2, G3, G4, rfl, h3, h4, h5⟩ := h
    refine ⟨G3 ++ (G1 ++ G4), ?_, by simp only [kidsLie]; exact ⟨G3, _, rfl, h3, h4, G1, G4, rfl, h1, h2, h5⟩⟩
    rw [← List.append_assoc, ← List.append_assoc]
    exact List.perm_append_comm.append_right G4
  | trans _ _ ih1 ih2 =>
    intro G h
    obtain ⟨G1, p1, k1⟩ := ih1 G h
    obtain ⟨G2, p2, k2⟩ := ih2 G1 k1
    exact ⟨G2, p2.trans p1, k2⟩
/-- The values of pairs, with their rows. -/
def entsP : List PEnt → List Ent
  | [] => []
  | x :: r => x.1 :: x.2 :: entsP r
theorem entsP_len : ∀ d : List PEnt, (entsP d).length = 2 * d.length
  | [] => rfl
  | x :: r => by simp only [entsP, List.length_cons]; rw [entsP_len r]; omega
theorem flat_entsP : ∀ d : List PEnt, flat (entsP d) = flatP d
  | [] => rfl
  | x :: r => by
    have h := flat_entsP r
    simp only [entsP, flat, List.flatMap_cons] at h ⊢
    rw [h, flatP_cons, PEnt.cells, List.append_assoc]
theorem entsP_pairsL : ∀ es : List Ent, es.length % 2 = 0 → entsP (pairsL es) = es
  | [], _ => rfl
  | [_], h => by simp at h
  | a :: b :: r, h => by simp only [pairsL, entsP]; rw [entsP_pairsL r (by simp only [List.length_cons] at h; omega)]
theorem entsP_perm {a b : List PEnt} (h : a.Perm b) : (entsP a).Perm (entsP b) := by
  induction h with
  | nil => exact List.Perm.refl _
  | cons x _ ih => exact (ih.cons _).cons _
  | swap x y l =>
    show (y.1 :: y.2 :: x.1 :: x.2 :: entsP l).Perm (x.1 :: x.2 :: y.1 :: y.2 :: entsP l)
    exact (List.perm_append_comm (l₁ := [y.1, y.2]) (l₂ := [x.1, x.2])).append_right (entsP l)
  | trans _ _ h1 h2 => exact h1.trans h2
/-- The pair of values of a pair with rows. -/
def vp (x : PEnt) : VP := (x.1.1, x.2.1)
theorem map_entsP : ∀ d : List PEnt, (entsP d).map (·.1) = unp (d.map vp)
  | [] => rfl
  | x :: r => by simp only [entsP, List.map_cons, unp, vp]; rw [map_entsP r]
theorem prs_map : ∀ es : List Ent, prs (es.map (·.1)) = (pairsL es).map vp
  | [] => rfl
  | [_] => rfl
  | a :: b :: r => by simp only [List.map_cons, prs, pairsL]; rw [prs_map r]; rfl
theorem own_prow {w : World} {base n c : Nat} {A : Option Addr} {d : List PEnt} (h : w.ownsRow base 79 10 (.slice A n c) n (flatP d)) : n = 0 ∨ ∃ g rest, A = some ⟨g, 0, none⟩ ∧ base ≤ g ∧ PRow w g d rest := by
  rcases h.2 with ⟨e, h0⟩ | ⟨g, cap, cur, e, h1, h2, h3, h4, h5, h6⟩
  · exact .inl h0
  · injection e with e1 e2 e3
    refine .inr ⟨g, cur.toList.drop (n * 10), e1, h1, ?_⟩
    unfold PRow Blk
    rw [← h6, List.take_append_drop]
    exact h2
/-- The row of a sorted map. -/
theorem sorted_row {w w' : World} {base base' : Nat} {o o' : Value} {es : List Ent} {Z : List PEnt} {G : List Nat} (hr : RowOf w base o es G) (hev : es.length % 2 = 0) (hZ : Z.Perm (pairsL es)) (hs : ∀ c ∈ G, w'.heap[c]? = w.heap[c]?) (hsz : w.heap.size ≤ w'.heap.size)
    (hb : ∀ c ∈ G, base' ≤ c) (ho : w'.ownsRow base' 28 5 o' (entsP Z).length (flatP Z)) (ha : ∀ g, o'.ownBlock = some g → g ∉ G) : ∃ G', RowOf w' base' o' (entsP Z) G' := by
  have hp : (entsP (pairsL es)).Perm (entsP Z) := entsP_perm hZ.symm
  rw [entsP_pairsL es hev] at hp
  obtain ⟨G', p, k⟩ := kidsLie_perm hp G (kidsLie_same es G hr.kids ⟨hsz, hs⟩)
  exact ⟨G', by rw [flat_entsP]; exact ho, k, p.symm.nodup hr.nodup, fun c hc => hb c (p.mem_iff.1 hc), fun g hg hc => ha g hg (p.mem_iff.1 hc)⟩
end Go.Proofs.YtcjamnfboifjeaaDoor

/-
  What the maps of a value must be for it to be sorted.
-/
namespace Go.Proofs.YtcjamnfboifjeaaDoor
open Go.RowKit
set_option linter.unusedVariables false
set_option linter.unusedSimpArgs false

/-- The pairs of a map are apart, keys have no kids. -/
def mapFit (v : V) : Prop := v.k = 8 → v.kids.length ≤ 900 ∧ v.kids.length % 2 = 0 ∧ (∀ x ∈ prs v.kids, x.1.kids = [] ∧ x.1.k ≠ 8) ∧ (prs v.kids).Pairwise (fun x y => V.cmp x.1 y.1 ≠ 0) ∧ v.n = 0 ∧ v.e = 0 ∧ v.s = ⟨#[]⟩
mutual
def V.fitM : V → Prop
  | .mk k n e s ks => mapFit (.mk k n e s ks) ∧ Vs.fitM ks
def Vs.fitM : List V → Prop
  | [] => True
  | v :: r => V.fitM v ∧ Vs.fitM r
end
theorem V.fitM_eq (v : V) : V.fitM v ↔ mapFit v ∧ Vs.fitM v.kids := by cases v; simp only [V.fitM, V.kids]
theorem Vs.fitM_get : ∀ {l : List V}, Vs.fitM l → ∀ i (h : i < l.length), V.fitM l[i]
  | v :: r, h, 0, _ => by simp only [Vs.fitM] at h; exact h.1
  | v :: r, h, i + 1, hi => by simp only [Vs.fitM] at h; exact Vs.fitM_get h.2 i (by simpa using hi)
theorem fit_get {v : V} (h : v.fitM) (i : Nat) (hi : i < v.kids.length) : V.fitM v.kids[i] := Vs.fitM_get ((V.fitM_eq v).1 h).2 i hi
theorem srt_leaf {v : V} (hk : v.kids = []) (h8 : v.k ≠ 8) : v.srt = v := by
  rw [V.srt_eq, if_neg h8, hk]
  cases v
  simp only [V.kids] at hk
  subst hk
  rfl
theorem prs_srt : ∀ l : List V, prs (l.map V.srt) = (prs l).map (fun x => (x.1.srt, x.2.srt))
  | [] => rfl
  | [_] => rfl
  | a :: b :: r => by simp only [List.map_cons, prs]; rw [prs_srt r]
theorem pw_ne : ∀ {l : List VP}, l.Pairwise (fun x y => V.cmp x.1 y.1 ≠ 0) → ∀ x ∈ l, ∀ y ∈ l, V.cmp x.1 y.1 = 0 → x = y
  | a :: r, h, x, hx, y, hy, hc => by
    rw [List.pairwise_cons] at h
    rcases List.mem_cons.1 hx with ex | hx2
    · rcases List.mem_cons.1 hy with ey | hy2
      · rw [ex, ey]
      · subst ex
        exact absurd hc (h.1 y hy2)
    · rcases List.mem_cons.1 hy with ey | hy2
      · subst ey
        exact absurd (by have := V.cmp_swap x.1 y.1; omega) (h.1 x hx2)
      · exact pw_ne h.2 x hx2 y hy2 hc
theorem fit_keys {v : V} (h : mapFit v) (h8 : v.k = 8) {es : List Ent} (he : es.map (·.1) = v.kids.map V.srt) :
    (∀ x ∈ pairsL es, leafP x) ∧ ∀ Z, Z.Perm (pairsL es) → Z.Pairwise kle → (entsP Z).map (·.1) = unp (sortP (prs (v.kids.map V.srt))) := by
  obtain ⟨_, _, h1, h2, _⟩ := h h8
  have e : (pairsL es).map vp = (prs v.kids).map (fun x => (x.1.srt, x.2.srt)) := by rw [← prs_map, he, prs_srt]
  have hkey : ∀ x ∈ prs v.kids, x.1.srt = x.1 := fun x hx => srt_leaf (h1 x hx).1 (h1 x hx).2
  refine ⟨fun x hx => ?_, fun Z hZ hp => ?_⟩
  · have hm : vp x ∈ (prs v.kids).map (fun x => (x.1.srt, x.2.srt)) := by rw [← e]; exact List.mem_map_of_mem hx
    obtain ⟨y, hy, e2⟩ := List.mem_map.1 hm
    have e3 : x.1.1 = y.1.srt := (congrArg Prod.fst e2).symm
    unfold leafP
    rw [e3, hkey y hy]
    exact (h1 y hy).1
  · rw [map_entsP]
    congr 1
    refine sortP_uniq (by rw [← he, prs_map]; exact hZ.map vp) (List.pairwise_map.2 hp) fun x hx y hy hc => ?_
    rw [prs_srt] at hx hy
    obtain ⟨a, ha, rfl⟩ := List.mem_map.1 hx
    obtain ⟨b, hb, rfl⟩ := List.mem_map.1 hy
    have := pw_ne h2 a ha b hb (by simpa [hkey a ha, hkey b hb] using hc)
    rw [this]
end Go.Proofs.YtcjamnfboifjeaaDoor

/-
  The program's tests of a value: a decimal number, a value but for its kids.
-/
namespace Go.Proofs.YtcjamnfboifjeaaDoor
open Go.RowKit
set_option linter.unusedVariables false
set_option maxRecDepth 100000

theorem tens_stepJ (n : Int) (k : Nat) (h : inR (n * 10)) : tens n (k + 1) = tens (n * 10) k := by
  conv => lhs; unfold tens
  rw [if_pos h]
theorem tens_stopJ (n : Int) (k : Nat) (h : ¬ inR (n * 10)) : tens n (k + 1) = none := by
  unfold tens
  rw [if_neg h]
theorem tup2f {a a' : Int} {b b' : Bool} (h1 : a = a') (h2 : b = b') : Ending.returned (.tuple #[.int .i64 a, .bool b]) = Ending.returned (.tuple #[.int .i64 a', .bool b']) := by rw [h1, h2]

set_option maxHeartbeats 1000000 in
theorem implFits (n : Int) (m : Nat) (w : World) (hn : inR n) (hm2 : m ≤ 1020) :
    Calls Tryd.prog 106 #[.int .i64 n, .int .i64 (m : Int)] w fun e w' => e = .returned (.tuple #[.int .i64 ((tens n m).getD 0), .bool (tens n m).isSome]) ∧ w = w' := by
  go_enter Tryd.func106, Tryd.ntmps106
  go_wp2_with fail
  go_loop [0, 1] (fun z i => ∃ (j : Nat) (x : Int), j ≤ m ∧ i = .int .i64 j ∧ z = .int .i64 x ∧ inR x ∧ tens n m = tens x j) (fun _ i => (intOf i).toNat)
  case atStart => exact ⟨m, n, by omega, rfl, rfl, hn, rfl⟩
  case round =>
    obtain ⟨j, x, hj, rfl, rfl, hx, ht⟩ := hrel
    have hr := hx
    unfold inR at hr
    by_cases hj0 : j = 0
    · subst hj0
      have HT : Hid (tens n m = some x) := Lib.hid ht
      clear ht hx
      go_wp2_with fail
      go_ret2
      exact ⟨tup2f (by rw [HT.out]; rfl) (by rw [HT.out]; rfl), rfl⟩
    by_cases hx0 : x = 0
    · subst hx0
      have HT : Hid (tens n m = some 0) := Lib.hid (ht.trans (tens_zero _))
      have hjp : 0 < j := by omega
      clear ht hx hj0
      go_wp2_with fail
      go_ret2
      exact ⟨tup2f (by rw [HT.out]; rfl) (by rw [HT.out]; rfl), rfl⟩
    · have hj1 : 0 < j := by omega
      have hx1 : (x != 0) = true := by simp; omega
      obtain ⟨k, rfl⟩ : ∃ k, j = k + 1 := ⟨j - 1, by omega⟩
      clear hj0 hx0
      by_cases h10 : inR (x * 10)
      · have HT := Lib.hid (ht.trans (tens_stepJ x k h10))
        have H10 := Lib.hid h10
        have hin := h10
        unfold inR at hin
        have c1 : decide (x > 922337203685477580) = false := decide_eq_false (by omega)
        have c2 : decide (x < -922337203685477580) = false := decide_eq_false (by omega)
        clear ht hx h10
        go_wp2_with fail
        go_round
        case rel => exact ⟨k, x * 10, by omega, by go_num, by go_num, H10.out, HT.out⟩
        case measure => simp [intOf]
      · have HT := Lib.hid (ht.trans (tens_stopJ x k h10))
        have hout : 922337203685477580 < x ∨ x < -922337203685477580 := by unfold inR at h10; omega
        rcases (show decide ((922337203685477580 : Int) < x) = true ∨ (decide ((922337203685477580 : Int) < x) = false ∧ decide (x < -922337203685477580) = true) by
          by_cases h : (922337203685477580 : Int) < x
          · left; exact decide_eq_true h
          · right; exact ⟨decide_eq_false h, decide_eq_true (by omega)⟩) with hc | hc
        all_goals
          clear ht hx h10 hout
          go_wp2_with fail
          go_ret2
          exact ⟨tup2f (by rw [HT.out]; rfl) (by rw [HT.out]; rfl), rfl⟩

theorem implFitsI (n e : Int) (w : World) (hn : inR n) (h0 : 0 < e) (hm2 : e ≤ 1020) :
    Calls Tryd.prog 106 #[.int .i64 n, .int .i64 e] w fun r w' => r = .returned (.tuple #[.int .i64 ((tens n e.toNat).getD 0), .bool (tens n e.toNat).isSome]) ∧ w = w' := by
  obtain ⟨m, rfl⟩ := Int.eq_ofNat_of_zero_le (show 0 ≤ e by omega)
  exact implFits n m w hn (by omega)
theorem decOk_false {n e : Int} (h : ¬ decOk n e) : false = decide (decOk n e) := (decide_eq_false h).symm
theorem decOk_neg {n e : Int} (h1 : -20 ≤ e) (h2 : e ≤ 20) (h3 : ¬ e = 0) (h4 : -999999999999999999 ≤ n) (h5 : n ≤ 999999999999999999) (h6 : (n.tmod 10 == 0) = false) (h7 : e ≤ 0) : true = decide (decOk n e) :=
  (decide_eq_true ⟨h1, h2, h3, h4, h5, by simpa using h6, fun h => by omega⟩).symm
theorem decOk_pos {n e : Int} (h1 : -20 ≤ e) (h2 : e ≤ 20) (h3 : ¬ e = 0) (h4 : -999999999999999999 ≤ n) (h5 : n ≤ 999999999999999999) (h6 : (n.tmod 10 == 0) = false) (h7 : 0 < e) : (tens n e.toNat).isNone = decide (decOk n e) := by
  rw [Bool.eq_iff_iff, decide_eq_true_iff]
  have h6' : Int.tmod n 10 ≠ 0 := by simpa using h6
  unfold decOk
  cases ht : tens n e.toNat with
  | none => simp [*]
  | some x => simp [*]

set_option maxHeartbeats 4000000 in
theorem implIsDec (v : V) (A : Option Addr) (cap : Nat) (w : World) :
    Calls Tryd.prog 95 #[v.agg A cap] w fun e w' => e = .returned (.bool (decide (decOk v.n v.e))) ∧ Below w.heap.size w w' := by
  unfold V.agg
  go_enter Tryd.func95, Tryd.ntmps95
  go_wp2_with (first | (go_at_call 97; go_in) | (go_at_call 106; refine (implFitsI v.n v.e _ (by unfold inR; omega) (by omega) (by omega)).mono ?_; rintro r w1 ⟨rfl, rfl⟩))
  all_goals go_ret
  all_goals refine ⟨ret_bool ?_, (Below.refl _ _).alloc (Nat.le_refl _) _⟩
  all_goals first
    | (refine decOk_false (fun h => ?_); obtain ⟨q1, q2, q3, q4, q5, q6, q7⟩ := h; first | omega | (simp_all; done))
    | exact decOk_neg (by omega) (by omega) (by omega) (by omega) (by omega) (by simp_all) (by omega)
    | exact decOk_pos (by omega) (by omega) (by omega) (by omega) (by omega) (by simp_all) (by omega)
end Go.Proofs.YtcjamnfboifjeaaDoor

/-
  PutSign: the bytes of a code point.
-/
namespace Go.Proofs.YtcjamnfboifjeaaDoor
open Go.RowKit
set_option linter.unusedVariables false

set_option maxHeartbeats 1000000 in
set_option maxRecDepth 100000 in
theorem specPutSign_1 (n : Nat) (w : World) (h : n < 128) :
    Calls Tryd.prog 114 #[.int .i64 n] w fun e w' => e = .returned (.string (Utf8.encode n)) ∧ Below w.heap.size w w' := by
  have hd0 : decide ((n : Int) ≤ 1114111) = true := by simp; omega
  have hd1 : decide (55296 ≤ (n : Int)) = false := by simp; omega
  have hd2 : decide ((n : Int) < 128) = true := by simp; omega
  have hl := lit1 (P := Tryd.prog) 34 9 5 Tryd.underlying34 Tryd.underlying5 Tryd.underlying9
  go_enter Tryd.func114, Tryd.ntmps114
  go_wp2_with go_in
  go_ret
  exact ⟨ret_eq (congrArg Value.string (enc1 n (by omega))), (Below.refl _ _).alloc (Nat.le_refl _) _⟩

set_option maxHeartbeats 1000000 in
set_option maxRecDepth 100000 in
theorem specPutSign_2 (n : Nat) (w : World) (h : 128 ≤ n ∧ n < 2048) :
    Calls Tryd.prog 114 #[.int .i64 n] w fun e w' => e = .returned (.string (Utf8.encode n)) ∧ Below w.heap.size w w' := by
  have hd0 : decide ((n : Int) ≤ 1114111) = true := by simp; omega
  have hd1 : decide (55296 ≤ (n : Int)) = false := by simp; omega
  have hd2 : decide ((n : Int) < 128) = false := by simp; omega
  have hd3 : decide ((n : Int) < 2048) = true := by simp; omega
  have hd4 : bits .and .i64 (n : Int) 63 = ((n % 64 : Nat) : Int) := and63 n (by omega)
  have hl := lit2 (P := Tryd.prog) 34 9 5 Tryd.underlying34 Tryd.underlying5 Tryd.underlying9
  go_enter Tryd.func114, Tryd.ntmps114
  go_wp2_with go_in
  go_ret
  exact ⟨ret_eq (congrArg Value.string (enc2 n (by omega))), (Below.refl _ _).alloc (Nat.le_refl _) _⟩

set_option maxHeartbeats 1000000 in
set_option maxRecDepth 100000 in
theorem specPutSign_3 (n : Nat) (w : World) (h : 2048 ≤ n ∧ n < 55296) :
    Calls Tryd.prog 114 #[.int .i64 n] w fun e w' => e = .returned (.string (Utf8.encode n)) ∧ Below w.heap.size w w' := by
  have hd0 : decide ((n : Int) ≤ 1114111) = true := by simp; omega
  have hd1 : decide (55296 ≤ (n : Int)) = false := by simp; omega
  have hd2 : decide ((n : Int) < 128) = false := by simp; omega
  have hd3 : decide ((n : Int) < 2048) = false := by simp; omega
  have hd4 : decide ((n : Int) < 65536) = true := by simp; omega
  have hd5 : bits .and .i64 (n : Int) 63 = ((n % 64 : Nat) : Int) := and63 n (by omega)
  have hd6 : bits .and .i64 ((n : Int) / 64) 63 = ((n / 64 % 64 : Nat) : Int) := and63d n 64 (by omega)
  have hl := lit3 (P := Tryd.prog) 34 9 5 Tryd.underlying34 Tryd.underlying5 Tryd.underlying9
  go_enter Tryd.func114, Tryd.ntmps114
  go_wp2_with go_in
  go_ret
  exact ⟨ret_eq (congrArg Value.string (enc3 n (by omega))), (Below.refl _ _).alloc (Nat.le_refl _) _⟩

set_option maxHeartbeats 1000000 in
set_option maxRecDepth 100000 in
theorem specPutSign_4 (n : Nat) (w : World) (h : 57343 < n ∧ n < 65536) :
    Calls Tryd.prog 114 #[.int .i64 n] w fun e w' => e = .returned (.string (Utf8.encode n)) ∧ Below w.heap.size w w' := by
  have hd0 : decide ((n : Int) ≤ 1114111) = true := by simp; omega
  have hd1 : decide (55296 ≤ (n : Int)) = true := by simp; omega
  have hd2 : decide ((n : Int) ≤ 57343) = false := by simp; omega
  have hd3 : decide ((n : Int) < 128) = false := by simp; omega
  have hd4 : decide ((n : Int) < 2048) = false := by simp; omega
  have hd5 : decide ((n : Int) < 65536) = true := by simp; omega
  have hd6 : bits .and .i64 (n : Int) 63 = ((n % 64 : Nat) : Int) := and63 n (by omega)
  have hd7 : bits .and .i64 ((n : Int) / 64) 63 = ((n / 64 % 64 : Nat) : Int) := and63d n 64 (by omega)
  have hl := lit3 (P := Tryd.prog) 34 9 5 Tryd.underlying34 Tryd.underlying5 Tryd.underlying9
  go_enter Tryd.func114, Tryd.ntmps114
  go_wp2_with go_in
  go_ret
  exact ⟨ret_eq (congrArg Value.string (enc3 n (by omega))), (Below.refl _ _).alloc (Nat.le_refl _) _⟩

set_option maxHeartbeats 1000000 in
set_option maxRecDepth 100000 in
theorem specPutSign_5 (n : Nat) (w : World) (h : 65536 ≤ n ∧ n < 1114112) :
    Calls Tryd.prog 114 #[.int .i64 n] w fun e w' => e = .returned (.string (Utf8.encode n)) ∧ Below w.heap.size w w' := by
  have hd0 : decide ((n : Int) ≤ 1114111) = true := by simp; omega
  have hd1 : decide (55296 ≤ (n : Int)) = true := by simp; omega
  have hd2 : decide ((n : Int) ≤ 57343) = false := by simp; omega
  have hd3 : decide ((n : Int) < 128) = false := by simp; omega
  have hd4 : decide ((n : Int) < 2048) = false := by simp; omega
  have hd5 : decide ((n : Int) < 65536) = false := by simp; omega
  have hd6 : bits .and .i64 (n : Int) 63 = ((n % 64 : Nat) : Int) := and63 n (by omega)
  have hd7 : bits .and .i64 ((n : Int) / 64) 63 = ((n / 64 % 64 : Nat) : Int) := and63d n 64 (by omega)
  have hd8 : bits .and .i64 ((n : Int) / 4096) 63 = ((n / 4096 % 64 : Nat) : Int) := and63d n 4096 (by omega)
  have hl := lit4 (P := Tryd.prog) 34 9 5 Tryd.underlying34 Tryd.underlying5 Tryd.underlying9
  go_enter Tryd.func114, Tryd.ntmps114
  go_wp2_with go_in
  go_ret
  exact ⟨ret_eq (congrArg Value.string (enc4 n (by omega))), (Below.refl _ _).alloc (Nat.le_refl _) _⟩

theorem specPutSign (n : Int) (w : World) (h0 : -9223372036854775808 ≤ n ∧ n ≤ 9223372036854775807) :
    Calls Tryd.prog 114 #[.int .i64 n] w fun e w' => e = .returned (.string (signB n)) ∧ Below w.heap.size w w' := by
  by_cases h : (0 ≤ n ∧ n < 55296) ∨ (57343 < n ∧ n ≤ 1114111)
  · have hs : signB n = Utf8.encode n := by unfold signB isSg; rw [if_pos (by simp; omega)]
    rw [hs]
    obtain ⟨n, rfl⟩ := Int.eq_ofNat_of_zero_le (show 0 ≤ n by omega)
    rcases (show n < 128 ∨ (128 ≤ n ∧ n < 2048) ∨ (2048 ≤ n ∧ n < 55296) ∨ (57343 < n ∧ n < 65536) ∨ (65536 ≤ n ∧ n < 1114112) by omega) with hc | hc | hc | hc | hc
    · exact specPutSign_1 n w hc
    · exact specPutSign_2 n w hc
    · exact specPutSign_3 n w hc
    · exact specPutSign_4 n w hc
    · exact specPutSign_5 n w hc
  · have hs : signB n = ⟨#[]⟩ := by unfold signB isSg; rw [if_neg (by simp; omega)]
    rw [hs]
    clear hs
    rcases (show n < 0 ∨ 1114111 < n ∨ (55296 ≤ n ∧ n ≤ 57343) by omega) with hc | hc | hc
    · clear h
      go_enter Tryd.func114, Tryd.ntmps114
      go_wp2_with go_in
      go_ret
      exact ⟨rfl, Below.refl _ _⟩
    · clear h
      have hd : decide (n ≤ 1114111) = false := by simp; omega
      go_enter Tryd.func114, Tryd.ntmps114
      go_wp2_with go_in
      go_ret
      exact ⟨rfl, Below.refl _ _⟩
    · clear h
      have hd : decide (n ≤ 1114111) = true := by simp; omega
      have hd2 : decide (n ≤ 57343) = true := by simp; omega
      go_enter Tryd.func114, Tryd.ntmps114
      go_wp2_with go_in
      go_ret
      exact ⟨rfl, Below.refl _ _⟩
end Go.Proofs.YtcjamnfboifjeaaDoor

/-
  GetSign of the reference: the sign at a place, as the model's own decoder reads it.
-/
namespace Go.Proofs.YtcjamnfboifjeaaDoor
open Go.RowKit
set_option linter.unusedVariables false

theorem and31 (n : Nat) (h : n < 9223372036854775808) : bits .and .i64 (n : Int) 31 = ((n % 32 : Nat) : Int) := by
  have h1 := ofInt_i64 n h
  have h2 := ofInt_i64 31 (by omega)
  show IntKind.i64.wrap ((BitVec.ofInt 64 (n : Int) &&& BitVec.ofInt 64 ((31 : Nat) : Int)).toNat : Int) = _
  rw [BitVec.toNat_and, h1, h2, Nat.and_two_pow_sub_one_eq_mod n 5, IntKind.wrap_i64]
  omega
theorem and15i (n : Nat) (h : n < 9223372036854775808) : bits .and .i64 (n : Int) 15 = ((n % 16 : Nat) : Int) := by
  have h1 := ofInt_i64 n h
  have h2 := ofInt_i64 15 (by omega)
  show IntKind.i64.wrap ((BitVec.ofInt 64 (n : Int) &&& BitVec.ofInt 64 ((15 : Nat) : Int)).toNat : Int) = _
  rw [BitVec.toNat_and, h1, h2, Nat.and_two_pow_sub_one_eq_mod n 4, IntKind.wrap_i64]
  omega
theorem and7i (n : Nat) (h : n < 9223372036854775808) : bits .and .i64 (n : Int) 7 = ((n % 8 : Nat) : Int) := by
  have h1 := ofInt_i64 n h
  have h2 := ofInt_i64 7 (by omega)
  show IntKind.i64.wrap ((BitVec.ofInt 64 (n : Int) &&& BitVec.ofInt 64 ((7 : Nat) : Int)).toNat : Int) = _
  rw [BitVec.toNat_and, h1, h2, Nat.and_two_pow_sub_one_eq_mod n 3, IntKind.wrap_i64]
  omega

set_option maxRecDepth 100000 in
theorem specMany (b : Nat) (hb : b < 256) (w : World) :
    Calls Tryd.prog 113 #[.int .i64 b] w fun e w' => e = .returned (.tuple #[.int .i64 (manyN b), .int .i64 (headN b)]) ∧ w = w' := by
  have e1 := and31 b (by omega)
  have e2 := and15i b (by omega)
  have e3 := and7i b (by omega)
  rcases (show b < 128 ∨ (128 ≤ b ∧ b < 192) ∨ (192 ≤ b ∧ b ≤ 223) ∨ (224 ≤ b ∧ b ≤ 239) ∨ (240 ≤ b ∧ b ≤ 247) ∨ (248 ≤ b) by omega) with h | h | h | h | h | h
  · have hm : manyN b = 1 ∧ headN b = b := by unfold manyN headN; rw [if_pos h, if_pos h]; exact ⟨rfl, rfl⟩
    rw [hm.1, hm.2]
    clear hm
    go_enter Tryd.func113, Tryd.ntmps113
    go_wp2_with go_in
    go_ret2
    exact ⟨rfl, rfl⟩
  · have hm : manyN b = 0 ∧ headN b = 0 := by
      unfold manyN headN
      rw [if_neg (by omega), if_neg (by omega), if_neg (by omega), if_neg (by omega), if_neg (by omega), if_neg (by omega), if_neg (by omega), if_neg (by omega)]; exact ⟨rfl, rfl⟩
    rw [hm.1, hm.2]
    clear hm
    go_enter Tryd.func113, Tryd.ntmps113
    go_wp2_with go_in
    go_ret2
    exact ⟨rfl, rfl⟩
  · have hm : manyN b = 2 ∧ headN b = b % 32 := by
      unfold manyN headN
      rw [if_neg (by omega), if_pos h, if_neg (by omega), if_pos h]; exact ⟨rfl, rfl⟩
    rw [hm.1, hm.2]
    clear hm
    go_enter Tryd.func113, Tryd.ntmps113
    go_wp2_with go_in
    go_ret2
    exact ⟨rfl, rfl⟩
  · have hm : manyN b = 3 ∧ headN b = b % 16 := by
      unfold manyN headN
      rw [if_neg (by omega), if_neg (by omega), if_pos h, if_neg (by omega), if_neg (by omega), if_pos h]; exact ⟨rfl, rfl⟩
    rw [hm.1, hm.2]
    clear hm
    go_enter Tryd.func113, Tryd.ntmps113
    go_wp2_with go_in
    go_ret2
    exact ⟨rfl, rfl⟩
  · have hm : manyN b = 4 ∧ headN b = b % 8 := by
      unfold manyN headN
      rw [if_neg (by omega), if_neg (by omega), if_neg (by omega), if_pos h, if_neg (by omega), if_neg (by omega), if_neg (by omega), if_pos h]; exact ⟨rfl, rfl⟩
    rw [hm.1, hm.2]
    clear hm
    go_enter Tryd.func113, Tryd.ntmps113
    go_wp2_with go_in
    go_ret2
    exact ⟨rfl, rfl⟩
  · have hm : manyN b = 0 ∧ headN b = 0 := by
      unfold manyN headN
      rw [if_neg (by omega), if_neg (by omega), if_neg (by omega), if_neg (by omega), if_neg (by omega), if_neg (by omega), if_neg (by omega), if_neg (by omega)]; exact ⟨rfl, rfl⟩
    rw [hm.1, hm.2]
    clear hm
    go_enter Tryd.func113, Tryd.ntmps113
    go_wp2_with go_in
    go_ret2
    exact ⟨rfl, rfl⟩

theorem gs_no {s : ByteArray} {i : Int} (h : ¬ gsOk s i) : gsN s i = -1 ∧ gsE s i = -1 := by
  unfold gsN gsE; rw [if_neg h, if_neg h]; exact ⟨rfl, rfl⟩
theorem gs_yes {s : ByteArray} {i : Int} (h : gsOk s i) : gsN s i = (Utf8.decode s i.toNat).1 ∧ gsE s i = i + (Utf8.decode s i.toNat).2 := by
  unfold gsN gsE; rw [if_pos h, if_pos h]; exact ⟨rfl, rfl⟩
theorem gs_yes' {s : ByteArray} {i : Nat} (h : gsOk s (i : Int)) : gsN s i = (Utf8.decode s i).1 ∧ gsE s i = (i : Int) + (Utf8.decode s i).2 := by
  have := gs_yes h
  rwa [Int.toNat_natCast] at this
theorem dec_w (s : ByteArray) (i : Nat) : (Utf8.decode s i).1 < 4294967296 ∧ 1 ≤ (Utf8.decode s i).2 ∧ (Utf8.decode s i).2 ≤ 4 := by
  rw [Lib.decode_at]
  have h0 := (s.get! i).toNat_lt
  have h1 := (s.get! (i + 1)).toNat_lt
  have h2 := (s.get! (i + 2)).toNat_lt
  have h3 := (s.get! (i + 3)).toNat_lt
  unfold Lib.decodeN
  repeat' split
  all_goals simp
  all_goals omega
theorem accN_step (s : ByteArray) (i k : Nat) (h : 1 ≤ k) (hk : i + k < s.size) : accN s i (k + 1 - 1) = accN s i (k - 1) * 64 + s[i + k].toNat % 64 := by
  obtain ⟨k, rfl⟩ : ∃ j, k = j + 1 := ⟨k - 1, by omega⟩
  rw [get_get! _ _ (by omega)]
  rfl
theorem tup2 {a a' b b' : Int} (h1 : a = a') (h2 : b = b') : Ending.returned (.tuple #[.int .i64 a, .int .i64 b]) = Ending.returned (.tuple #[.int .i64 a', .int .i64 b']) := by rw [h1, h2]

theorem sl2 (s : ByteArray) (i j : Nat) (h : i + j ≤ s.size) (hs : s.size ≤ 1048576) : (0 : Int) ≤ i ∧ (i : Int) ≤ (i : Int) + j ∧ (i : Int) + j ≤ s.size ∧ IntKind.i64.wrap ((i : Int) + j) = (i : Int) + j ∧ (0 : Int) ≤ (i : Int) + j ∧ ((i : Int) + j).toNat = i + j := by
  refine ⟨by omega, by omega, by omega, ?_, by omega, by omega⟩
  rw [IntKind.wrap_i64]; omega

set_option maxHeartbeats 1000000 in
theorem specGetSign (s : ByteArray) (i : Int) (w : World) (hs : s.size ≤ 1048576) (hi : -9223372036854775808 ≤ i ∧ i ≤ 9223372036854775807) :
    Calls Tryd.prog 111 #[.string s, .int .i64 i] w fun e w' => e = .returned (.tuple #[.int .i64 (gsN s i), .int .i64 (gsE s i)]) ∧ Below w.heap.size w w' := by
  by_cases hin : 0 ≤ i ∧ i < s.size
  · obtain ⟨h0, h1⟩ := hin
    obtain ⟨i, rfl⟩ := Int.eq_ofNat_of_zero_le h0
    have hlt : i < s.size := by omega
    have hu : s[i].toNat < 256 := UInt8.toNat_lt _
    have HG := Lib.hid (get_get! s i hlt)
    by_cases hno : manyN s[i].toNat = 0 ∨ s.size < i + manyN s[i].toNat
    · have HN := Lib.hid (gs_no (sgn_none s i (by rw [← HG.out]; exact hno)))
      rcases hno with hm | hm
      · have HM := Lib.hid hm
        clear hm
        go_enter Tryd.func111, Tryd.ntmps111
        go_wp2_with fail
        refine (specMany _ hu w).mono ?_
        rintro e w' ⟨rfl, rfl⟩
        rw [HM.out]
        go_wp2_with fail
        go_ret2
        exact ⟨tup2 HN.out.1.symm HN.out.2.symm, Below.refl _ _⟩
      · have hml := manyN_le s[i].toNat
        by_cases hm0 : manyN s[i].toNat = 0
        · have HM := Lib.hid hm0
          clear hm hm0
          go_enter Tryd.func111, Tryd.ntmps111
          go_wp2_with fail
          refine (specMany _ hu w).mono ?_
          rintro e w' ⟨rfl, rfl⟩
          rw [HM.out]
          go_wp2_with fail
          go_ret2
          exact ⟨tup2 HN.out.1.symm HN.out.2.symm, Below.refl _ _⟩
        · go_enter Tryd.func111, Tryd.ntmps111
          go_wp2_with fail
          refine (specMany _ hu w).mono ?_
          rintro e w' ⟨rfl, rfl⟩
          go_wp2_with fail
          all_goals go_ret2
          all_goals exact ⟨tup2 HN.out.1.symm HN.out.2.symm, Below.refl _ _⟩
    · obtain ⟨hm0, hmle⟩ : manyN s[i].toNat ≠ 0 ∧ i + manyN s[i].toNat ≤ s.size := by omega
      have hml := manyN_le s[i].toNat
      have HS := Lib.hid (sgn_some s i (manyN s[i].toNat) (by rw [HG.out]) (by omega) hmle)
      have HH := Lib.hid (show headN s[i].toNat = accN s i (1 - 1) by rw [HG.out]; rfl)
      clear hno
      go_enter Tryd.func111, Tryd.ntmps111
      go_wp2_with fail
      refine (specMany _ hu w).mono ?_
      rintro e w' ⟨rfl, rfl⟩
      rw [HH.out]
      generalize manyN s[i].toNat = m at *
      have hmz : ((m : Int) == 0) = false := by simp; omega
      have hm1 : 1 ≤ m := by omega
      clear hm0
      go_wp2_with fail
      go_loop [7, 8] (fun n k => ∃ j : Nat, 1 ≤ j ∧ j ≤ m ∧ k = .int .i64 j ∧ n = .int .i64 (accN s i (j - 1))) (fun _ k => m - (intOf k).toNat)
      case atStart => exact ⟨1, by omega, by omega, rfl, rfl⟩
      case round =>
        obtain ⟨j, hj1, hj, rfl, rfl⟩ := hrel
        have ha := accN_lt s i (j - 1) (by omega)
        by_cases hlt2 : j < m
        · have HST := Lib.hid (accN_step s i j hj1 (by omega))
          have hu2 : s[i + j].toNat < 256 := UInt8.toNat_lt _
          have hx := and63 s[i + j].toNat (by omega)
          generalize accN s i (j - 1) = a at *
          go_wp2_with fail
          go_round
          case rel => exact ⟨j + 1, by omega, by omega, by go_num, by rw [HST.out]; go_num⟩
          case measure => simp [intOf]; omega
        · obtain rfl : j = m := by omega
          have hcmp := sg_cmp s i j (accN s i (j - 1)) hmle
          have HC := Lib.hid hcmp
          clear hcmp
          generalize accN s i (j - 1) = a at *
          have HK : Hid (((signB (a : Int)).toList == (s.extract i (i + j)).toList) = decide (gsOk s (i : Int))) := by
            rw [Bool.eq_iff_iff, decide_eq_true_iff, HS.out.1, ← HC.out, beq_iff_eq, ByteArray.toList_eq, ByteArray.toList_eq]
            exact ⟨fun h => ba_ext h, fun h => by rw [h]⟩
          go_wp2_with fail
          obtain ⟨q1, q2, q3, q4, q5, q6⟩ := sl2 s i j hmle hs
          go_region_held3 (fun _ => True) (exact trivial) (first | (go_at_call 114; refine (specPutSign _ _ ⟨by omega, by omega⟩).mono ?_; rintro e w2 ⟨rfl, hb2⟩))
          by_cases hok : gsOk s (i : Int)
          · have ht : ((signB (a : Int)).toList == (s.extract i (i + j)).toList) = true := by rw [HK.out]; exact decide_eq_true hok
            have HY := Lib.hid (gs_yes hok)
            have HD := Lib.hid (HS.out.2 hok)
            clear q1 q2 q3 q4 q5 q6
            go_wp2_with fail
            all_goals go_ret2
            all_goals first
              | (have hx : (!(signB (a : Int)).toList == (s.extract i (i + j)).toList) = true := by assumption
                 rw [ht] at hx; cases hx)
              | exact ⟨tup2 (by rw [HY.out.1, Int.toNat_natCast, HD.out]) (by rw [HY.out.2, Int.toNat_natCast, HD.out]), (Below.refl _ _).drew.trans hb2⟩
          · have ht : ((signB (a : Int)).toList == (s.extract i (i + j)).toList) = false := by rw [HK.out]; exact decide_eq_false hok
            have HN := Lib.hid (gs_no hok)
            clear q1 q2 q3 q4 q5 q6
            go_wp2_with fail
            all_goals go_ret2
            all_goals first
              | (have hx : (!(signB (a : Int)).toList == (s.extract i (i + j)).toList) = false := by assumption
                 rw [ht] at hx; cases hx)
              | exact ⟨tup2 HN.out.1.symm HN.out.2.symm, (Below.refl _ _).drew.trans hb2⟩
  · have HN := Lib.hid (gs_no (s := s) (i := i) (fun h => hin ⟨h.1, h.2.1⟩))
    go_enter Tryd.func111, Tryd.ntmps111
    by_cases h0 : i < 0
    · clear hin
      go_wp2_with fail
      go_ret2
      exact ⟨tup2 HN.out.1.symm HN.out.2.symm, Below.refl _ _⟩
    · have h1 : (s.size : Int) ≤ i := by omega
      clear hin
      go_wp2_with fail
      go_ret2
      exact ⟨tup2 HN.out.1.symm HN.out.2.symm, Below.refl _ _⟩
end Go.Proofs.YtcjamnfboifjeaaDoor

/-
  Signs and TextOk of the reference.
-/
namespace Go.Proofs.YtcjamnfboifjeaaDoor
open Go.RowKit
set_option linter.unusedVariables false

/-- A number as a value. -/
def iv (n : Nat) : Value := .int .i64 (n : Int)
theorem one_iv (n : Int) : ∀ u ∈ #[Value.int .i64 n].toList, u.oneCell' = true := by
  intro u hu; simp at hu; subst hu; rfl
theorem infoI : (Tryd.prog.info? 3).map (fun i => (i.zero, i.size, i.bytes)) = some (some (.int .i64 0), 1, 8) := by kernel_rfl
/-- What holds in the loop. -/
def SgRel (s : ByteArray) (w : World) (o i : Value) (wr : World) : Prop :=
  ∃ (j : Nat) (pre : List Nat), ReadTo s j pre ∧ i = .int .i64 j ∧ wr.ownsRow w.heap.size 3 1 o pre.length (pre.map iv) ∧ Below w.heap.size w wr

theorem sg_next {s : ByteArray} {w w' : World} {j : Nat} {pre : List Nat} {v : Value} (h : ReadTo s j pre) (hj : j < s.size) (hok : gsOk s (j : Int)) {a b : Int} (ha : a = (Utf8.decode s j).1) (hb : b = (j : Int) + (Utf8.decode s j).2)
    (hown : w'.ownsRow w.heap.size 3 1 v (pre.length + 1) (pre.map iv ++ [.int .i64 a])) (hbl : Below w.heap.size w w') : SgRel s w v (.int .i64 b) w' := by
  subst ha hb
  exact ⟨_, _, readTo_next h hj hok, by simp, by simpa [iv] using hown, hbl⟩

set_option maxHeartbeats 1000000 in
theorem specSigns (s : ByteArray) (w : World) (hs : s.size ≤ 1048576) :
    Calls Tryd.prog 108 #[.string s] w fun e w' => ∃ o, e = .returned o ∧ w'.ownsRow w.heap.size 3 1 o (signsL s).length ((signsL s).map iv) ∧ Below w.heap.size w w' := by
  go_enter Tryd.func108, Tryd.ntmps108
  go_wp2_with fail
  go_loopw [3, 4] (fun o i wr => SgRel s w o i wr) (fun _ i _ => s.size - (intOf i).toNat)
  case atStart => exact ⟨0, [], readTo_zero s, rfl, own_empty w _ _, (Below.refl _ _).alloc (Nat.le_refl _) _⟩
  case round =>
    obtain ⟨j, pre, hr, rfl, hown, hb⟩ := hrel
    have hle := hr.1
    have hpl := hr.2.1
    have HR := Lib.hid hr
    clear hr
    by_cases hlt : j < s.size
    · by_cases hok : gsOk s (j : Int)
      · have HY := Lib.hid (gs_yes' hok)
        have hp := dec_w s j
        go_wp2_with fail
        refine (specGetSign s j _ hs ⟨by omega, by omega⟩).mono ?_
        rintro e w1 ⟨rfl, hb1⟩
        have hown1 := own_below hown hb1
        have hbw := hb.trans (hb1.mono hb.size)
        have hg : gsE s (j : Int) = (j : Int) + (Utf8.decode s j).2 := HY.out.2
        have hpos : decide (gsE s (j : Int) < 0) = false := by rw [hg]; simp; omega
        have hpos2 : ¬ gsE s (j : Int) < 0 := by omega
        have HG := Lib.hid hg
        clear hg hown hb hb1
        go_wp2_with (at_builtin; refine wpList_app rfl (.tmp 21) (.tmp 23) 63 rfl w.heap.size 3 Tryd.underlying63 infoI rfl (by decide) (W := w) rfl (hown1.alloc _) (hbw.alloc hbw.size _) (Nat.le_trans hbw.size (by simp)) _ 1 1 _ rfl rfl (cells_new _ _ _) (one_iv _) (by unfold maxLen; omega) (by omega) ?_; intro v' w' hown' hb' hB')
        go_roundw
        case rel => exact sg_next HR.out hlt hok HY.out.1 HG.out hown' hb'
        case measure => have := HG.out; simp [intOf]; omega
      · have HN := Lib.hid (gs_no hok)
        have HE := Lib.hid (readTo_bad HR.out hlt hok)
        go_wp2_with fail
        refine (specGetSign s j _ hs ⟨by omega, by omega⟩).mono ?_
        rintro e w1 ⟨rfl, hb1⟩
        have hbw := hb.trans (hb1.mono hb.size)
        rw [HN.out.1, HN.out.2]
        go_wp2_with fail
        go_ret
        refine ⟨_, rfl, ?_, hbw.alloc hbw.size _⟩
        rw [HE.out.1]
        exact own_empty' _ _ hbw.size
    · have HE := Lib.hid (readTo_end HR.out hlt)
      go_wp2_with fail
      go_ret
      refine ⟨_, rfl, ?_, hb⟩
      rw [HE.out.1]
      exact hown

set_option maxHeartbeats 1000000 in
theorem specTextOk (s : ByteArray) (w : World) (hs : s.size ≤ 1048576) :
    Calls Tryd.prog 102 #[.string s] w fun e w' => e = .returned (.bool (textOk s)) ∧ Below w.heap.size w w' := by
  have HT := Lib.hid (textOk_signs s)
  by_cases h0 : s.size = 0
  · obtain rfl : s = ⟨#[]⟩ := by
      cases s with
      | mk d => cases d with
        | mk l => cases l with
          | nil => rfl
          | cons a l => simp [ByteArray.size] at h0
    go_enter Tryd.func102, Tryd.ntmps102
    go_wp2_with fail
    go_ret
    exact ⟨ret_eq (congrArg Value.bool (by rw [HT.out]; rfl)), Below.refl _ _⟩
  · have hne : s.toList.isEmpty = false := by
      rw [ByteArray.toList_eq]
      cases s with
      | mk d => cases d with
        | mk l => cases l with
          | nil => exact absurd rfl h0
          | cons a l => rfl
    have hz := signsL_len s
    have HE := Lib.hid (show textOk s = decide (0 < (signsL s).length) by rw [HT.out]; simp [h0])
    go_enter Tryd.func102, Tryd.ntmps102
    go_wp2_with fail
    refine (specSigns s w hs).mono ?_
    rintro e w1 ⟨o, rfl, hown, hb1⟩
    obtain ⟨A, c, rfl⟩ := own_slice hown
    clear hown
    go_wp2_with fail
    go_ret
    exact ⟨ret_eq (congrArg Value.bool (by rw [HE.out])), hb1⟩

end Go.Proofs.YtcjamnfboifjeaaDoor

/-
  The library's two tables of UTF-8.
-/
namespace Go.Proofs.YtcjamnfboifjeaaDoor
open Go.RowKit

/-- The library's tables. -/
def Tabs (w : World) : Prop := Lib.Utf8Tabs 0 1 w
theorem Tabs.below {w w' : World} (h : Tabs w) (hb : Below w.heap.size w w') : Tabs w' := Utf8Tabs_below h hb
end Go.Proofs.YtcjamnfboifjeaaDoor

/-
  TextOk of the program.
-/
namespace Go.Proofs.YtcjamnfboifjeaaDoor
open Go.RowKit
set_option linter.unusedVariables false

set_option maxHeartbeats 1000000 in
theorem implTextOk (s : ByteArray) (w : World) (hs : s.size ≤ 1048576) (hT : Tabs w) :
    Calls Tryd.prog 96 #[.string s] w fun e w' => e = .returned (.bool (textOk s)) ∧ Below w.heap.size w w' := by
  have HV := Lib.hid (valid_textOk s)
  go_enter Tryd.func96, Tryd.ntmps96
  go_wp2_with fail
  refine (Tryd.utf8_ValidString_v s w (by omega) hT).mono ?_
  rintro e w1 ⟨rfl, hb1⟩
  rw [HV.out]
  go_wp2_with fail
  go_ret
  exact ⟨rfl, hb1⟩
end Go.Proofs.YtcjamnfboifjeaaDoor

/-
  The program's test of a value but for its kids.
-/
namespace Go.Proofs.YtcjamnfboifjeaaDoor
open Go.RowKit
set_option linter.unusedVariables false
set_option maxRecDepth 100000

theorem sz_empty (s : ByteArray) : s.size = 0 ↔ s.toList = [] := by
  rw [ByteArray.toList_eq]
  constructor
  · intro h
    have : s.data.toList.length = 0 := by simpa using h
    exact List.length_eq_zero_iff.1 this
  · intro h
    have : s.data.toList.length = 0 := by rw [h]; rfl
    simpa using this
theorem szz (n : Nat) : n ≤ 2000 ↔ (n : Int) ≤ 2000 := by omega
theorem node_a {v : V} (h : v.k = 0 ∨ v.k = 1 ∨ v.k = 2 ∨ v.k = 7 ∨ v.k = 8) : nodeOk v ↔ v.n = 0 ∧ v.e = 0 ∧ v.s.toList = [] := by
  unfold nodeOk
  rw [if_pos h, sz_empty]
theorem node_3 {v : V} (h : v.k = 3) : nodeOk v ↔ v.e = 0 ∧ v.s.toList = [] := by
  unfold nodeOk
  rw [if_neg (by omega), if_pos h, sz_empty]
theorem node_4 {v : V} (h : v.k = 4) : nodeOk v ↔ decOk v.n v.e ∧ v.s.toList = [] := by
  unfold nodeOk
  rw [if_neg (by omega), if_neg (by omega), if_pos h, sz_empty]
theorem node_5 {v : V} (h : v.k = 5) : nodeOk v ↔ v.n = 0 ∧ v.e = 0 ∧ textOk v.s = true ∧ (v.s.size : Int) ≤ 2000 := by
  unfold nodeOk
  rw [if_neg (by omega), if_neg (by omega), if_neg (by omega), if_pos h, szz]
theorem node_6 {v : V} (h : v.k = 6) : nodeOk v ↔ v.n = 0 ∧ v.e = 0 ∧ (v.s.size : Int) ≤ 2000 := by
  unfold nodeOk
  rw [if_neg (by omega), if_neg (by omega), if_neg (by omega), if_neg (by omega), if_pos h, szz]
theorem node_9 {v : V} (h : v.k = 9) : nodeOk v ↔ 0 ≤ v.n ∧ v.n ≤ 1000000 ∧ v.e = 0 ∧ v.s.toList = [] := by
  unfold nodeOk
  rw [if_neg (by omega), if_neg (by omega), if_neg (by omega), if_neg (by omega), if_neg (by omega), if_pos h, sz_empty]
theorem node_else {v : V} (h : v.k < 0 ∨ 9 < v.k) : ¬ nodeOk v := by
  unfold nodeOk
  rw [if_neg (by omega), if_neg (by omega), if_neg (by omega), if_neg (by omega), if_neg (by omega), if_neg (by omega)]
  exact id
theorem bl_2a {w : World} {o o' : Obj} : Below w.heap.size w ((w.alloc o).alloc o') := ((Below.refl _ w).alloc (Nat.le_refl _) o).alloc (by simp) o'
theorem blk_first {w w1 : World} {o' : Obj} {t : TypeId} {cs : Array Value} (h : Below ((w.alloc (.cells cs t)).alloc o').heap.size ((w.alloc (.cells cs t)).alloc o') w1) : Blk w1 w.heap.size t cs :=
  ((Blk.new w t cs).alloc o').below h (by simp; omega)
theorem blk_second {w w1 : World} {o : Obj} {t : TypeId} {cs : Array Value} (h : Below ((w.alloc o).alloc (.cells cs t)).heap.size ((w.alloc o).alloc (.cells cs t)) w1) : Blk w1 (w.heap.size + 1) t cs := by
  have := (Blk.new (w.alloc o) t cs).below h (by simp)
  simpa using this
theorem bl_2b {w w1 : World} {o o' : Obj} (h : Below ((w.alloc o).alloc o').heap.size ((w.alloc o).alloc o') w1) : Below w.heap.size w w1 := bl_2a.trans (h.mono (by simp; omega))

set_option maxHeartbeats 4000000 in
theorem implNode_0 (v : V) (A : Option Addr) (cap : Nat) (w : World) (hk : v.k = 0) :
    Calls Tryd.prog 86 #[v.agg A cap] w fun e w' => e = .returned (.bool (decide (nodeOk v))) ∧ Below w.heap.size w w' := by
  have HO := Lib.hid (node_a (.inl hk))
  unfold V.agg
  go_enter Tryd.func86, Tryd.ntmps86
  go_wp2_with fail
  all_goals go_ret
  all_goals refine ⟨ret_bool ?_, bl_2a⟩
  all_goals first
    | (simp [HO.out, *]; done)
    | (simp [HO.out, *]; intros; omega)
    | (simp [HO.out, *]; cases v.s.toList <;> rfl)
    | (simp_all [HO.out]; done)
    | (simp_all [HO.out]; intros; omega)
    | (simp_all [HO.out]; cases v.s.toList <;> rfl)

set_option maxHeartbeats 4000000 in
theorem implNode_1 (v : V) (A : Option Addr) (cap : Nat) (w : World) (hk : v.k = 1) :
    Calls Tryd.prog 86 #[v.agg A cap] w fun e w' => e = .returned (.bool (decide (nodeOk v))) ∧ Below w.heap.size w w' := by
  have HO := Lib.hid (node_a (.inr (.inl hk)))
  unfold V.agg
  go_enter Tryd.func86, Tryd.ntmps86
  go_wp2_with fail
  all_goals go_ret
  all_goals refine ⟨ret_bool ?_, bl_2a⟩
  all_goals first
    | (simp [HO.out, *]; done)
    | (simp [HO.out, *]; intros; omega)
    | (simp [HO.out, *]; cases v.s.toList <;> rfl)
    | (simp_all [HO.out]; done)
    | (simp_all [HO.out]; intros; omega)
    | (simp_all [HO.out]; cases v.s.toList <;> rfl)

set_option maxHeartbeats 4000000 in
theorem implNode_2 (v : V) (A : Option Addr) (cap : Nat) (w : World) (hk : v.k = 2) :
    Calls Tryd.prog 86 #[v.agg A cap] w fun e w' => e = .returned (.bool (decide (nodeOk v))) ∧ Below w.heap.size w w' := by
  have HO := Lib.hid (node_a (.inr (.inr (.inl hk))))
  unfold V.agg
  go_enter Tryd.func86, Tryd.ntmps86
  go_wp2_with fail
  all_goals go_ret
  all_goals refine ⟨ret_bool ?_, bl_2a⟩
  all_goals first
    | (simp [HO.out, *]; done)
    | (simp [HO.out, *]; intros; omega)
    | (simp [HO.out, *]; cases v.s.toList <;> rfl)
    | (simp_all [HO.out]; done)
    | (simp_all [HO.out]; intros; omega)
    | (simp_all [HO.out]; cases v.s.toList <;> rfl)

set_option maxHeartbeats 4000000 in
theorem implNode_7 (v : V) (A : Option Addr) (cap : Nat) (w : World) (hk : v.k = 7) :
    Calls Tryd.prog 86 #[v.agg A cap] w fun e w' => e = .returned (.bool (decide (nodeOk v))) ∧ Below w.heap.size w w' := by
  have HO := Lib.hid (node_a (.inr (.inr (.inr (.inl hk)))))
  unfold V.agg
  go_enter Tryd.func86, Tryd.ntmps86
  go_wp2_with fail
  all_goals go_ret
  all_goals refine ⟨ret_bool ?_, bl_2a⟩
  all_goals first
    | (simp [HO.out, *]; done)
    | (simp [HO.out, *]; intros; omega)
    | (simp [HO.out, *]; cases v.s.toList <;> rfl)
    | (simp_all [HO.out]; done)
    | (simp_all [HO.out]; intros; omega)
    | (simp_all [HO.out]; cases v.s.toList <;> rfl)

set_option maxHeartbeats 4000000 in
theorem implNode_8 (v : V) (A : Option Addr) (cap : Nat) (w : World) (hk : v.k = 8) :
    Calls Tryd.prog 86 #[v.agg A cap] w fun e w' => e = .returned (.bool (decide (nodeOk v))) ∧ Below w.heap.size w w' := by
  have HO := Lib.hid (node_a (.inr (.inr (.inr (.inr hk)))))
  unfold V.agg
  go_enter Tryd.func86, Tryd.ntmps86
  go_wp2_with fail
  all_goals go_ret
  all_goals refine ⟨ret_bool ?_, bl_2a⟩
  all_goals first
    | (simp [HO.out, *]; done)
    | (simp [HO.out, *]; intros; omega)
    | (simp [HO.out, *]; cases v.s.toList <;> rfl)
    | (simp_all [HO.out]; done)
    | (simp_all [HO.out]; intros; omega)
    | (simp_all [HO.out]; cases v.s.toList <;> rfl)

set_option maxHeartbeats 4000000 in
theorem implNode_3 (v : V) (A : Option Addr) (cap : Nat) (w : World) (hk : v.k = 3) :
    Calls Tryd.prog 86 #[v.agg A cap] w fun e w' => e = .returned (.bool (decide (nodeOk v))) ∧ Below w.heap.size w w' := by
  have HO := Lib.hid (node_3 hk)
  unfold V.agg
  go_enter Tryd.func86, Tryd.ntmps86
  go_wp2_with fail
  all_goals go_ret
  all_goals refine ⟨ret_bool ?_, bl_2a⟩
  all_goals first
    | (simp [HO.out, *]; done)
    | (simp [HO.out, *]; intros; omega)
    | (simp [HO.out, *]; cases v.s.toList <;> rfl)
    | (simp_all [HO.out]; done)
    | (simp_all [HO.out]; intros; omega)
    | (simp_all [HO.out]; cases v.s.toList <;> rfl)

set_option maxHeartbeats 4000000 in
theorem implNode_6 (v : V) (A : Option Addr) (cap : Nat) (w : World) (hk : v.k = 6) :
    Calls Tryd.prog 86 #[v.agg A cap] w fun e w' => e = .returned (.bool (decide (nodeOk v))) ∧ Below w.heap.size w w' := by
  have HO := Lib.hid (node_6 hk)
  unfold V.agg
  go_enter Tryd.func86, Tryd.ntmps86
  go_wp2_with fail
  all_goals go_ret
  all_goals refine ⟨ret_bool ?_, bl_2a⟩
  all_goals first
    | (simp [HO.out, *]; done)
    | (simp [HO.out, *]; intros; omega)
    | (simp [HO.out, *]; cases v.s.toList <;> rfl)
    | (simp_all [HO.out]; done)
    | (simp_all [HO.out]; intros; omega)
    | (simp_all [HO.out]; cases v.s.toList <;> rfl)

set_option maxHeartbeats 4000000 in
theorem implNode_9 (v : V) (A : Option Addr) (cap : Nat) (w : World) (hk : v.k = 9) :
    Calls Tryd.prog 86 #[v.agg A cap] w fun e w' => e = .returned (.bool (decide (nodeOk v))) ∧ Below w.heap.size w w' := by
  have HO := Lib.hid (node_9 hk)
  unfold V.agg
  go_enter Tryd.func86, Tryd.ntmps86
  go_wp2_with (go_at_call 97; go_in)
  all_goals go_ret
  all_goals refine ⟨ret_bool ?_, bl_2a⟩
  all_goals first
    | (simp [HO.out, *]; done)
    | (simp [HO.out, *]; intros; omega)
    | (simp [HO.out, *]; cases v.s.toList <;> rfl)
    | (simp_all [HO.out]; done)
    | (simp_all [HO.out]; intros; omega)
    | (simp_all [HO.out]; cases v.s.toList <;> rfl)

set_option maxHeartbeats 4000000 in
theorem implNode_5 (v : V) (A : Option Addr) (cap : Nat) (w : World) (hk : v.k = 5) (hs : v.s.size ≤ 1048576) (hT : Tabs w) :
    Calls Tryd.prog 86 #[v.agg A cap] w fun e w' => e = .returned (.bool (decide (nodeOk v))) ∧ Below w.heap.size w w' := by
  have HO := Lib.hid (node_5 hk)
  unfold V.agg
  go_enter Tryd.func86, Tryd.ntmps86
  go_wp2_with (go_at_call 96; refine (implTextOk v.s _ hs (hT.below bl_2a)).mono ?_; rintro e w1 ⟨rfl, hb1⟩; obtain ⟨p0, p1, p2, p3, p4⟩ := (blk_first hb1).five; obtain ⟨q0, q1, q2, q3, q4⟩ := (blk_second hb1).five; have f1 := (blk_second hb1).frozen 1; have f2 := (blk_second hb1).frozen 2; have f3 := (blk_second hb1).frozen 3)
  all_goals go_ret
  all_goals refine ⟨ret_bool ?_, by first | exact bl_2a | exact bl_2b hb1 | exact (bl_2b hb1).setCell (p := ⟨w.heap.size + 1, 3, none⟩) (by simp) _⟩
  all_goals first
    | (simp [HO.out, *]; done)
    | (simp [HO.out, *]; intros; omega)
    | (simp_all [HO.out]; done)
    | (simp_all [HO.out]; intros; omega)
    | (simp_all [HO.out]; cases h : textOk v.s <;> simp_all <;> omega)
end Go.Proofs.YtcjamnfboifjeaaDoor

/-
  The program's test of a decimal number but for its kids.
-/
namespace Go.Proofs.YtcjamnfboifjeaaDoor
open Go.RowKit
set_option linter.unusedVariables false
set_option maxRecDepth 100000

set_option maxHeartbeats 4000000 in
theorem implNode_4 (v : V) (A : Option Addr) (cap : Nat) (w : World) (hk : v.k = 4) :
    Calls Tryd.prog 86 #[v.agg A cap] w fun e w' => e = .returned (.bool (decide (nodeOk v))) ∧ Below w.heap.size w w' := by
  have HO := Lib.hid (node_4 hk)
  unfold V.agg
  go_enter Tryd.func86, Tryd.ntmps86
  go_wp2_with fail
  have hI := fun w0 => implIsDec v A cap w0
  unfold V.agg at hI
  rw [hk] at hI
  refine (hI _).mono ?_
  rintro e w1 ⟨rfl, hb1⟩
  obtain ⟨p0, p1, p2, p3, p4⟩ := (blk_first hb1).five
  obtain ⟨q0, q1, q2, q3, q4⟩ := (blk_second hb1).five
  have f1 := (blk_second hb1).frozen 1
  have f2 := (blk_second hb1).frozen 2
  have f3 := (blk_second hb1).frozen 3
  have HBB := Lib.hid (bl_2b hb1)
  clear hb1
  by_cases hd : decOk v.n v.e
  · rw [show decide (decOk v.n v.e) = true from decide_eq_true hd]
    have HD := Lib.hid hd
    clear hd
    go_wp2_with fail
    go_region
    all_goals go_wp2_with fail
    all_goals go_ret
    all_goals refine ⟨ret_bool (by simp only [HO.out, HD.out, true_and]; cases v.s.toList <;> simp), ?_⟩
    all_goals first
      | exact ((HBB.out.setCell (p := ⟨w.heap.size + 1, 1, none⟩) (by simp) _).setCell (p := ⟨w.heap.size + 1, 2, none⟩) (by simp) _).drew
      | exact ((HBB.out.drew.setCell (p := ⟨w.heap.size + 1, 1, none⟩) (by simp) _).setCell (p := ⟨w.heap.size + 1, 2, none⟩) (by simp) _)
      | exact ((HBB.out.setCell (p := ⟨w.heap.size + 1, 2, none⟩) (by simp) _).setCell (p := ⟨w.heap.size + 1, 1, none⟩) (by simp) _).drew
  · rw [show decide (decOk v.n v.e) = false from decide_eq_false hd]
    have HN : Hid (¬ nodeOk v) := Lib.hid (fun h => hd (HO.out.1 h).1)
    clear hd
    go_wp2_with fail
    go_ret
    exact ⟨ret_bool (decide_eq_false HN.out).symm, HBB.out⟩
end Go.Proofs.YtcjamnfboifjeaaDoor

/-
  The program's isNode, whole; isKey.
-/
namespace Go.Proofs.YtcjamnfboifjeaaDoor
open Go.RowKit
set_option linter.unusedVariables false
set_option maxRecDepth 100000

set_option maxHeartbeats 2000000 in
theorem implNode_else (v : V) (A : Option Addr) (cap : Nat) (w : World) (hk : v.k < 0 ∨ 9 < v.k) :
    Calls Tryd.prog 86 #[v.agg A cap] w fun e w' => e = .returned (.bool (decide (nodeOk v))) ∧ Below w.heap.size w w' := by
  have HO := Lib.hid (node_else hk)
  have q0 : (v.k == 0) = false := by rw [beq_eq_false_iff_ne]; omega
  have q1 : (v.k == 1) = false := by rw [beq_eq_false_iff_ne]; omega
  have q2 : (v.k == 2) = false := by rw [beq_eq_false_iff_ne]; omega
  have q3 : (v.k == 3) = false := by rw [beq_eq_false_iff_ne]; omega
  have q4 : (v.k == 4) = false := by rw [beq_eq_false_iff_ne]; omega
  have q5 : (v.k == 5) = false := by rw [beq_eq_false_iff_ne]; omega
  have q6 : (v.k == 6) = false := by rw [beq_eq_false_iff_ne]; omega
  have q7 : (v.k == 7) = false := by rw [beq_eq_false_iff_ne]; omega
  have q8 : (v.k == 8) = false := by rw [beq_eq_false_iff_ne]; omega
  have q9 : (v.k == 9) = false := by rw [beq_eq_false_iff_ne]; omega
  clear hk
  unfold V.agg
  go_enter Tryd.func86, Tryd.ntmps86
  go_wp2_with fail
  go_ret
  exact ⟨ret_bool (decide_eq_false HO.out).symm, bl_2a⟩
theorem implNode (v : V) (A : Option Addr) (cap : Nat) (w : World) (hs : v.s.size ≤ 1048576) (hT : Tabs w) :
    Calls Tryd.prog 86 #[v.agg A cap] w fun e w' => e = .returned (.bool (decide (nodeOk v))) ∧ Below w.heap.size w w' := by
  rcases (show v.k = 0 ∨ v.k = 1 ∨ v.k = 2 ∨ v.k = 3 ∨ v.k = 4 ∨ v.k = 5 ∨ v.k = 6 ∨ v.k = 7 ∨ v.k = 8 ∨ v.k = 9 ∨ (v.k < 0 ∨ 9 < v.k) by omega) with h | h | h | h | h | h | h | h | h | h | h
  · exact implNode_0 v A cap w h
  · exact implNode_1 v A cap w h
  · exact implNode_2 v A cap w h
  · exact implNode_3 v A cap w h
  · exact implNode_4 v A cap w h
  · exact implNode_5 v A cap w h hs hT
  · exact implNode_6 v A cap w h
  · exact implNode_7 v A cap w h
  · exact implNode_8 v A cap w h
  · exact implNode_9 v A cap w h
  · exact implNode_else v A cap w h
set_option maxHeartbeats 1000000 in
theorem implIsKey (v : V) (A : Option Addr) (cap : Nat) (w : World) :
    Calls Tryd.prog 98 #[v.agg A cap] w fun e w' => e = .returned (.bool (isKeyB v)) ∧ Below w.heap.size w w' := by
  unfold V.agg
  go_enter Tryd.func98, Tryd.ntmps98
  go_wp2_with fail
  all_goals go_ret
  all_goals exact ⟨ret_bool (by unfold isKeyB; first | (simp [*]; done) | (rw [Bool.eq_iff_iff]; simp [*])), (Below.refl _ _).alloc (Nat.le_refl _) _⟩
end Go.Proofs.YtcjamnfboifjeaaDoor

/-
  The program's areKids.
-/
namespace Go.Proofs.YtcjamnfboifjeaaDoor
open Go.RowKit
set_option linter.unusedVariables false
set_option maxRecDepth 100000

/-- Two keys are one, by what the program compares. -/
def keySame (a b : V) : Prop := V.same b a = true
def pairsI (l : List V) : Prop := pairsTo keySame l l.length ∧ l.length % 2 = 0
def kidsI (v : V) : Prop := if v.k = 7 then True else if v.k = 9 then v.kids.length = 1 else if v.k = 8 then pairsI v.kids else v.kids.length = 0
theorem kidsI_8 {v : V} (h : v.k = 8) : kidsI v ↔ pairsI v.kids := by
  unfold kidsI
  rw [if_neg (by omega), if_neg (by omega), if_pos h]
theorem pairsToP_step {R : V → V → Prop} {l : List V} {j : Nat} (hj : j < l.length) (he : j % 2 = 0) (h : pairsTo R l j) (hk : isKeyB l[j] = true) (hn : ∀ k (hk : k < j), k % 2 = 0 → ¬ R (l[k]'(by omega)) l[j]) : pairsTo R l (j + 2) := by
  intro i hi hlt hev
  by_cases e : i = j
  · subst e; exact ⟨hk, hn⟩
  · exact h i hi (by omega) hev
theorem pairsToP_end {R : V → V → Prop} {l : List V} {j : Nat} (hj : l.length ≤ j) (h : pairsTo R l j) : pairsTo R l l.length := fun i hi _ he => h i hi (by omega) he

set_option maxHeartbeats 4000000 in
theorem implKids_8 (v : V) (A : Option Addr) (cap : Nat) (w : World) (hk : v.k = 8) (hn : v.nodes ≤ 1048577) (hat : Vs.at_ w 0 w.heap.size v.kids A) :
    Calls Tryd.prog 87 #[v.agg A cap] w fun e w' => e = .returned (.bool (decide (kidsI v))) ∧ Below w.heap.size w w' := by
  have HO := Lib.hid (kidsI_8 hk)
  have HA := Lib.hid hat
  have q7 : (v.k == 7) = false := by rw [hk]; rfl
  have q9 : (v.k == 9) = false := by rw [hk]; rfl
  have q8 : (v.k == 8) = true := by rw [hk]; rfl
  have hl : v.kids.length ≤ 1048576 := by have := Vs.len_nodes v.kids; have := V.nodes_eq v; omega
  have HNN := Lib.hid (fun (i : Nat) (h : i < v.kids.length) => show (v.kids[i]).nodes ≤ 1048577 by have := Vs.nodes_get i h; have := V.nodes_eq v; omega)
  clear hk hat hn
  unfold V.agg
  go_enter Tryd.func87, Tryd.ntmps87
  go_wp2_with fail
  go_loopw [3, 4] (fun i k wr => ∃ j : Nat, j ≤ v.kids.length + 1 ∧ j % 2 = 0 ∧ i = .int .i64 j ∧ pairsTo keySame v.kids j ∧ Blk wr w.heap.size 28 #[.int .i64 v.k, .int .i64 v.n, .int .i64 v.e, .string v.s, .slice A v.kids.length cap] ∧ Below w.heap.size w wr) (fun i _ _ => v.kids.length + 2 - (intOf i).toNat)
  case atStart => exact ⟨0, by omega, rfl, rfl, fun i _ h => by omega, Blk.new _ _ _, (Below.refl _ _).alloc (Nat.le_refl _) _⟩
  case round =>
    obtain ⟨j, hj, he, rfl, hp, B, hb⟩ := hrel
    have HP := Lib.hid hp
    have b4 : wr.cell? ⟨w.heap.size, 4, none⟩ = some (.slice A v.kids.length cap) := B.cell 4
    clear hp
    by_cases hlt : j < v.kids.length
    · obtain ⟨b, off, A', cap', eA, g1, g2, g3, ⟨c0, c1, c2, c3, c4⟩, g5⟩ := Vs.at_get j hlt (Vs.at_below HA.out hb (Nat.le_refl _))
      subst eA
      go_wp2_with fail
      refine (implIsKey v.kids[j] A' cap' _).mono ?_
      rintro e w1 ⟨rfl, hb1⟩
      have B1 := B.below hb1 B.lt
      have b1 := hb.trans (hb1.mono hb.size)
      clear c0 c1 c2 c3 c4 b4 g5
      by_cases hkey : isKeyB v.kids[j] = true
      · rw [hkey]
        have HKEY := Lib.hid hkey
        clear hkey
        go_wp2_with fail
        go_loopw [4] (fun k wq => ∃ m : Nat, m ≤ j + 1 ∧ m % 2 = 0 ∧ k = .int .i64 m ∧ (∀ q (hq : q < j), q < m → q % 2 = 0 → ¬ keySame (v.kids[q]'(by omega)) v.kids[j]) ∧ Blk wq w.heap.size 28 #[.int .i64 v.k, .int .i64 v.n, .int .i64 v.e, .string v.s, .slice (some ⟨b, off, none⟩) v.kids.length cap] ∧ Below w.heap.size w wq) (fun k _ => j + 2 - (intOf k).toNat)
        case atStart => exact ⟨0, by omega, rfl, rfl, fun q _ h => by omega, B1, b1⟩
        case round =>
          obtain ⟨m, hm, hme, rfl, hnot, Bq, hbq⟩ := hrel
          have HNOT := Lib.hid hnot
          have b4 : wr.cell? ⟨w.heap.size, 4, none⟩ = some (.slice (some ⟨b, off, none⟩) v.kids.length cap) := Bq.cell 4
          clear hnot
          by_cases hmj : m < j
          · have hmlt : m < v.kids.length := by omega
            obtain ⟨b1, off1, A1, cap1, e1, k1, k2, k3, ⟨d0, d1, d2, d3, d4⟩, k5⟩ := Vs.at_get m hmlt (Vs.at_below HA.out hbq (Nat.le_refl _))
            obtain ⟨b2, off2, A2, cap2, e2, m1, m2, m3, ⟨f0, f1, f2, f3, f4⟩, m5⟩ := Vs.at_get j hlt (Vs.at_below HA.out hbq (Nat.le_refl _))
            injection e1 with e1
            injection e1 with e11 e12
            injection e2 with e2
            injection e2 with e21 e22
            subst e11 e12 e21 e22
            go_wp2_with fail
            go_still_tail 10, (by kernel_rfl)
            change wpList _ _ _ _ _ wr.drew
            go_wp2_with fail
            refine (implSame v.kids[j] v.kids[m] A2 A1 cap2 cap1 wr.drew (HNN.out j hlt) (HNN.out m hmlt) (Vs.at_more (Nat.le_refl _) hbq.size _ _ (Vs.at_drew m5)) (Vs.at_more (Nat.le_refl _) hbq.size _ _ (Vs.at_drew k5))).mono ?_
            rintro e w2 ⟨rfl, hb2⟩
            have hbw : Below w.heap.size w w2 := hbq.drew.trans (hb2.mono hbq.size)
            have B2 := (Bq.drew).below hb2 Bq.lt
            clear d0 d1 d2 d3 d4 f0 f1 f2 f3 f4 b4 k5 m5
            by_cases hq : V.same v.kids[j] v.kids[m] = true
            · rw [hq]
              have HN : Hid (¬ kidsI v) := Lib.hid (fun h => ((HO.out.1 h).1 j hlt hlt he).2 m hmj hme hq)
              clear hq
              go_wp2_with fail
              go_ret
              exact ⟨ret_bool (decide_eq_false HN.out).symm, hbw⟩
            · have HQ := Lib.hid hq
              rw [show V.same v.kids[j] v.kids[m] = false by simpa using hq]
              clear hq
              go_wp2_with fail
              go_roundw
              case rel => exact ⟨m + 2, by omega, by omega, by go_num, fun q hq1 hq2 hq3 => by
                by_cases e : q = m
                · subst e; exact HQ.out
                · exact HNOT.out q hq1 (by omega) hq3, B2, hbw⟩
              case measure => simp [intOf]; omega
          · have HST := Lib.hid (pairsToP_step hlt he HP.out HKEY.out (fun k hk hke => HNOT.out k hk (by omega) hke))
            go_wp2_with fail
            go_roundw
            case rel => exact ⟨j + 2, by omega, by omega, by go_num, HST.out, Bq, hbq⟩
            case measure => simp [intOf]; omega
      · have hkf : isKeyB v.kids[j] = false := by simpa using hkey
        have HN : Hid (¬ kidsI v) := Lib.hid (fun h => hkey ((HO.out.1 h).1 j hlt hlt he).1)
        rw [hkf]
        go_wp2_with fail
        go_ret
        exact ⟨ret_bool (decide_eq_false HN.out).symm, b1⟩
    · have HE : Hid (kidsI v ↔ v.kids.length % 2 = 0) := Lib.hid (HO.out.trans ⟨fun h => h.2, fun h => ⟨pairsToP_end (by omega) HP.out, h⟩⟩)
      by_cases hev : v.kids.length % 2 = 0
      · have hx : ((v.kids.length : Int) % 2 == 0) = true := by rw [beq_iff_eq]; omega
        go_wp2_with fail
        go_ret
        exact ⟨ret_bool (decide_eq_true (HE.out.2 hev)).symm, hb⟩
      · have hx : ((v.kids.length : Int) % 2 == 0) = false := by rw [beq_eq_false_iff_ne]; omega
        go_wp2_with fail
        go_ret
        exact ⟨ret_bool (decide_eq_false (fun h => hev (HE.out.1 h))).symm, hb⟩

set_option maxHeartbeats 1000000 in
theorem implKids_7 (v : V) (A : Option Addr) (cap : Nat) (w : World) (hk : v.k = 7) :
    Calls Tryd.prog 87 #[v.agg A cap] w fun e w' => e = .returned (.bool (decide (kidsI v))) ∧ Below w.heap.size w w' := by
  have HO : Hid (kidsI v) := Lib.hid (by unfold kidsI; rw [if_pos hk]; trivial)
  have q7 : (v.k == 7) = true := by rw [hk]; rfl
  clear hk
  unfold V.agg
  go_enter Tryd.func87, Tryd.ntmps87
  go_wp2_with fail
  go_ret
  exact ⟨ret_bool (decide_eq_true HO.out).symm, (Below.refl _ _).alloc (Nat.le_refl _) _⟩
theorem int_eq_dec (n m : Nat) : ((n : Int) == (m : Int)) = decide (n = m) := by rw [Bool.eq_iff_iff]; simp; omega
set_option maxHeartbeats 1000000 in
theorem implKids_9 (v : V) (A : Option Addr) (cap : Nat) (w : World) (hk : v.k = 9) (hl : v.kids.length ≤ 1048576) :
    Calls Tryd.prog 87 #[v.agg A cap] w fun e w' => e = .returned (.bool (decide (kidsI v))) ∧ Below w.heap.size w w' := by
  have HO : Hid (decide (kidsI v) = ((v.kids.length : Int) == 1)) := Lib.hid (by
    have h := int_eq_dec v.kids.length 1
    rw [show ((1 : Nat) : Int) = 1 from rfl] at h
    rw [h]
    exact decide_eq_decide.2 (by unfold kidsI; rw [if_neg (by omega), if_pos hk]))
  have q7 : (v.k == 7) = false := by rw [hk]; rfl
  have q9 : (v.k == 9) = true := by rw [hk]; rfl
  clear hk
  unfold V.agg
  go_enter Tryd.func87, Tryd.ntmps87
  go_wp2_with fail
  go_ret
  exact ⟨ret_bool HO.out.symm, (Below.refl _ _).alloc (Nat.le_refl _) _⟩
set_option maxHeartbeats 1000000 in
theorem implKids_0 (v : V) (A : Option Addr) (cap : Nat) (w : World) (hk : v.k ≠ 7 ∧ v.k ≠ 8 ∧ v.k ≠ 9) (hl : v.kids.length ≤ 1048576) :
    Calls Tryd.prog 87 #[v.agg A cap] w fun e w' => e = .returned (.bool (decide (kidsI v))) ∧ Below w.heap.size w w' := by
  have HO : Hid (decide (kidsI v) = ((v.kids.length : Int) == 0)) := Lib.hid (by
    have h := int_eq_dec v.kids.length 0
    rw [show ((0 : Nat) : Int) = 0 from rfl] at h
    rw [h]
    exact decide_eq_decide.2 (by unfold kidsI; rw [if_neg hk.1, if_neg hk.2.2, if_neg hk.2.1]))
  have q7 : (v.k == 7) = false := by rw [beq_eq_false_iff_ne]; exact hk.1
  have q9 : (v.k == 9) = false := by rw [beq_eq_false_iff_ne]; exact hk.2.2
  have q8 : (v.k == 8) = false := by rw [beq_eq_false_iff_ne]; exact hk.2.1
  clear hk
  unfold V.agg
  go_enter Tryd.func87, Tryd.ntmps87
  go_wp2_with fail
  go_ret
  exact ⟨ret_bool HO.out.symm, (Below.refl _ _).alloc (Nat.le_refl _) _⟩
theorem implKids (v : V) (A : Option Addr) (cap : Nat) (w : World) (hn : v.nodes ≤ 1048577) (hat : Vs.at_ w 0 w.heap.size v.kids A) :
    Calls Tryd.prog 87 #[v.agg A cap] w fun e w' => e = .returned (.bool (decide (kidsI v))) ∧ Below w.heap.size w w' := by
  have hl : v.kids.length ≤ 1048576 := by have := Vs.len_nodes v.kids; have := V.nodes_eq v; omega
  rcases (show v.k = 7 ∨ v.k = 8 ∨ v.k = 9 ∨ (v.k ≠ 7 ∧ v.k ≠ 8 ∧ v.k ≠ 9) by omega) with h | h | h | h
  · exact implKids_7 v A cap w h
  · exact implKids_8 v A cap w h hn hat
  · exact implKids_9 v A cap w h hl
  · exact implKids_0 v A cap w h hl
end Go.Proofs.YtcjamnfboifjeaaDoor

/-
  A right value, as the program asks it; that is what the reference asks, where there are not too many nodes.
-/
namespace Go.Proofs.YtcjamnfboifjeaaDoor
open Go.RowKit
set_option linter.unusedVariables false
set_option maxRecDepth 100000

mutual
/-- A value is right as the program asks it, at most so many kids deep. -/
def V.rightI : Int → V → Prop
  | d, .mk k n e s ks => 0 ≤ d ∧ nodeOk (.mk k n e s ks) ∧ kidsI (.mk k n e s ks) ∧ Vs.rightI (d - 1) ks
def Vs.rightI : Int → List V → Prop
  | _, [] => True
  | d, v :: r => V.rightI d v ∧ Vs.rightI d r
end
theorem V.rightI_eq (d : Int) (v : V) : V.rightI d v ↔ 0 ≤ d ∧ nodeOk v ∧ kidsI v ∧ Vs.rightI (d - 1) v.kids := by cases v; simp [V.rightI, V.kids]
theorem Vs.rightI_iff (d : Int) : ∀ l : List V, Vs.rightI d l ↔ ∀ i (h : i < l.length), V.rightI d l[i]
  | [] => by simp [Vs.rightI]
  | v :: r => by
    simp only [Vs.rightI]
    rw [Vs.rightI_iff d r]
    constructor
    · rintro ⟨h1, h2⟩ i hi
      cases i with
      | zero => exact h1
      | succ i => exact h2 i (by simpa using hi)
    · intro h
      exact ⟨h 0 (by simp), fun i hi => h (i + 1) (by simpa using hi)⟩
theorem Vs.rightI_take (d : Int) (l : List V) (h : Vs.rightI d (l.take l.length)) : Vs.rightI d l := by rwa [List.take_length] at h
theorem Vs.rightI_step (d : Int) (l : List V) (j : Nat) (hj : j < l.length) (h : Vs.rightI d (l.take j)) (hv : V.rightI d l[j]) : Vs.rightI d (l.take (j + 1)) := by
  rw [Vs.rightI_iff] at h ⊢
  intro i hi
  rw [List.length_take] at hi
  by_cases e : i = j
  · subst e; simpa using hv
  · have := h i (by rw [List.length_take]; omega)
    simpa using this

/-- A key that is right has no kids and no e. -/
def leafy (v : V) : Prop := v.e = 0 ∧ v.kids.length = 0
theorem leafy_right {d : Int} {v : V} (h : V.right d v) (hk : isKeyB v = true) : leafy v := by
  obtain ⟨_, ⟨h1, h2⟩, _⟩ := (V.right_eq d v).1 h
  have hk' : v.k = 5 ∨ v.k = 3 := by simpa [isKeyB] using hk
  unfold nodeOk at h1
  unfold kidsOk at h2
  rcases hk' with hk' | hk' <;> simp [hk'] at h1 h2
  · exact ⟨h1.2.1, by simp [h2]⟩
  · exact ⟨h1.1, by simp [h2]⟩
theorem keySame_iff {a b : V} (ha : leafy a) (hb : leafy b) : keySame a b ↔ keyEq a b := by
  unfold keySame keyEq
  constructor
  · intro h
    have h0 : V.ord b a = 0 := by
      by_cases h0 : V.ord b a = 0
      · exact h0
      · rw [V.same_no h0] at h; cases h
    obtain ⟨h1, h2, h3, h4, h5⟩ := (V.ord_iff b a).1 h0
    exact ⟨h1.symm, h2.symm, h4.symm⟩
  · rintro ⟨h1, h2, h3⟩
    rw [V.same_yes h1.symm h2.symm (by rw [ha.1, hb.1]) h3.symm]
    have e1 : a.kids = [] := List.eq_nil_of_length_eq_zero ha.2
    have e2 : b.kids = [] := List.eq_nil_of_length_eq_zero hb.2
    rw [e1, e2]
    unfold Vs.same
    exact decide_eq_true ⟨rfl, by simp [Vs.cmp]⟩
theorem pairsTo_iff {l : List V} (h : ∀ i (hi : i < l.length), isKeyB l[i] = true → leafy l[i]) (m : Nat) : pairsTo keySame l m ↔ pairsTo keyEq l m := by
  unfold pairsTo
  constructor
  · intro hp i hi hm he
    obtain ⟨h1, h2⟩ := hp i hi hm he
    refine ⟨h1, fun k hk hke hq => h2 k hk hke ((keySame_iff (h k (by omega) (hp k (by omega) (by omega) hke).1) (h i hi h1)).2 hq)⟩
  · intro hp i hi hm he
    obtain ⟨h1, h2⟩ := hp i hi hm he
    refine ⟨h1, fun k hk hke hq => h2 k hk hke ((keySame_iff (h k (by omega) (hp k (by omega) (by omega) hke).1) (h i hi h1)).1 hq)⟩
theorem kidsI_iff {d : Int} {v : V} (h : Vs.right d v.kids) (hn : v.kids.length ≤ 300) : kidsI v ↔ kidsOk v := by
  unfold kidsI kidsOk
  have h2 : pairsI v.kids ↔ pairsOk v.kids := by
    unfold pairsI pairsOk
    rw [pairsTo_iff (fun i hi hk => leafy_right ((Vs.right_iff _ _).1 h i hi) hk)]
    exact ⟨fun ⟨a, b⟩ => ⟨a, b, hn⟩, fun ⟨a, b, _⟩ => ⟨a, b⟩⟩
  rw [h2]
theorem rightI_iff : ∀ v : V, v.nodes ≤ 301 → ∀ d, V.rightI d v ↔ V.right d v := by
  refine V.all fun v hk hn d => ?_
  have hkids : Vs.rightI (d - 1) v.kids ↔ Vs.right (d - 1) v.kids := by
    rw [Vs.rightI_iff, Vs.right_iff]
    have h1 : ∀ i (h : i < v.kids.length), (v.kids[i]).nodes ≤ 301 := fun i h => by have := Vs.nodes_get i h; have := V.nodes_eq v; omega
    exact ⟨fun h i hi => (hk i hi (h1 i hi) _).1 (h i hi), fun h i hi => (hk i hi (h1 i hi) _).2 (h i hi)⟩
  rw [V.rightI_eq, V.right_eq, hkids]
  have hl : v.kids.length ≤ 300 := by have := Vs.len_nodes v.kids; have := V.nodes_eq v; omega
  unfold ownOk
  constructor
  · rintro ⟨a, b, c, e⟩; exact ⟨a, ⟨b, (kidsI_iff e hl).1 c⟩, e⟩
  · rintro ⟨a, ⟨b, c⟩, e⟩; exact ⟨a, b, (kidsI_iff e hl).2 c, e⟩
/-- What is asked of a value where there may be so many nodes. -/
def inV (L : Nat) (d : Int) (v : V) : Prop := v.nodes ≤ L ∧ V.rightI (12 - d) v
theorem inV_okV (v : V) : inV 300 0 v ↔ okV v := by
  unfold inV okV
  constructor
  · rintro ⟨h1, h2⟩; exact ⟨(rightI_iff v (by omega) _).1 (by simpa using h2), h1⟩
  · rintro ⟨h1, h2⟩; exact ⟨h2, (rightI_iff v (by omega) _).2 (by simpa using h1)⟩
end Go.Proofs.YtcjamnfboifjeaaDoor

/-
  The maps of a right value can be sorted.
-/
namespace Go.Proofs.YtcjamnfboifjeaaDoor
open Go.RowKit
set_option linter.unusedVariables false
set_option linter.unusedSimpArgs false

theorem prs_get {l : List V} {j : Nat} (h : j < (prs l).length) : ∃ (h1 : 2 * j < l.length) (h2 : 2 * j + 1 < l.length), (prs l)[j] = (l[2 * j], l[2 * j + 1]) := by
  have hl := prs_len l
  have h2 : 2 * j + 1 < l.length := by omega
  have e := prs_at l j h2
  rw [List.getElem?_eq_getElem h] at e
  injection e with e
  exact ⟨by omega, h2, e⟩
theorem Vs.fitM_of : ∀ {l : List V}, (∀ i (h : i < l.length), V.fitM l[i]) → Vs.fitM l
  | [], _ => by simp only [Vs.fitM]
  | v :: r, h => by
    simp only [Vs.fitM]
    exact ⟨h 0 (by simp), Vs.fitM_of fun i hi => by have := h (i + 1) (by simpa using hi); simpa using this⟩
theorem empty_of_size {b : ByteArray} (h : b.size = 0) : b = ⟨#[]⟩ := by
  obtain ⟨d⟩ := b
  have : d.size = 0 := h
  rw [Array.eq_empty_of_size_eq_zero this]
theorem fit_right (v : V) : ∀ d, V.right d v → V.fitM v := by
  refine V.all (P := fun v => ∀ d, V.right d v → V.fitM v) (fun v hk d h => ?_) v
  obtain ⟨_, ⟨h1, h2⟩, h3⟩ := (V.right_eq d v).1 h
  rw [Vs.right_iff] at h3
  refine (V.fitM_eq v).2 ⟨fun h8 => ?_, Vs.fitM_of fun i hi => hk i hi _ (h3 i hi)⟩
  unfold nodeOk at h1
  rw [if_pos (by omega)] at h1
  unfold kidsOk at h2
  rw [if_neg (by omega), if_neg (by omega), if_pos h8] at h2
  obtain ⟨p1, p2, p3⟩ := h2
  have key : ∀ j (hj : 2 * j < v.kids.length), isKeyB v.kids[2 * j] = true ∧ leafy v.kids[2 * j] := fun j hj => by
    have := (p1 (2 * j) hj hj (by omega)).1
    exact ⟨this, leafy_right (h3 _ hj) this⟩
  refine ⟨by omega, p2, fun x hx => ?_, ?_, h1.1, h1.2.1, empty_of_size h1.2.2⟩
  · obtain ⟨j, hj, rfl⟩ := List.getElem_of_mem hx
    obtain ⟨a, b, e⟩ := prs_get hj
    obtain ⟨q1, q2⟩ := key j a
    rw [e]
    refine ⟨List.eq_nil_of_length_eq_zero q2.2, ?_⟩
    unfold isKeyB at q1
    have q3 := of_decide_eq_true q1
    show (v.kids[2 * j]).k ≠ 8
    omega
  · rw [List.pairwise_iff_getElem]
    intro i j hi hj hij hc
    obtain ⟨a1, a2, e1⟩ := prs_get hi
    obtain ⟨b1, b2, e2⟩ := prs_get hj
    rw [e1, e2] at hc
    have h0 : V.cmp v.kids[2 * j] v.kids[2 * i] = 0 := by
      have := V.cmp_swap v.kids[2 * i] v.kids[2 * j]
      have hc' : V.cmp v.kids[2 * i] v.kids[2 * j] = 0 := hc
      omega
    exact (p1 (2 * j) b1 b1 (by omega)).2 (2 * i) (by omega) (by omega) ((keySame_iff (key i a1).2 (key j b1).2).1 (decide_eq_true h0))
/-- Sorted. -/
noncomputable def sortV (v : V) : V := if okV v then v.srt else v
end Go.Proofs.YtcjamnfboifjeaaDoor

/-
  What sorting leaves as it is: the count of the nodes; sorted twice is sorted once.
-/
namespace Go.Proofs.YtcjamnfboifjeaaDoor
open Go.RowKit
set_option linter.unusedVariables false
set_option linter.unusedSimpArgs false

theorem Vs.nodes_sum (l : List V) : Vs.nodes l = (l.map V.nodes).sum := by
  induction l with
  | nil => rfl
  | cons a l ih => simp only [Vs.nodes, List.map_cons, List.sum_cons, ih]
theorem unp_perm {a b : List VP} (h : a.Perm b) : (unp a).Perm (unp b) := by
  induction h with
  | nil => exact List.Perm.refl _
  | cons x _ ih => exact (ih.cons _).cons _
  | swap x y l =>
    show (y.1 :: y.2 :: x.1 :: x.2 :: unp l).Perm (x.1 :: x.2 :: y.1 :: y.2 :: unp l)
    exact (List.perm_append_comm (l₁ := [y.1, y.2]) (l₂ := [x.1, x.2])).append_right (unp l)
  | trans _ _ h1 h2 => exact h1.trans h2
theorem srt_kids (v : V) : v.srt.kids = if v.k = 8 then unp (sortP (prs (v.kids.map V.srt))) else v.kids.map V.srt := by
  rw [V.srt_eq]; rfl
theorem srt_k (v : V) : v.srt.k = v.k := by rw [V.srt_eq]; rfl
theorem srt_perm {v : V} (h : mapFit v) : v.srt.kids.Perm (v.kids.map V.srt) := by
  rw [srt_kids]
  by_cases h8 : v.k = 8
  · rw [if_pos h8]
    have hp := unp_perm (sortP_perm (prs (v.kids.map V.srt)))
    rw [unp_prs (v.kids.map V.srt) (by rw [List.length_map]; exact (h h8).2.1)] at hp
    exact hp
  · rw [if_neg h8]
theorem map_same {f g : V → Nat} {l : List V} (h : ∀ i (hi : i < l.length), f l[i] = g l[i]) : l.map f = l.map g := by
  refine List.map_congr_left fun x hx => ?_
  obtain ⟨i, hi, rfl⟩ := List.getElem_of_mem hx
  exact h i hi
theorem srt_nodes (v : V) : V.fitM v → v.srt.nodes = v.nodes := by
  refine V.all (P := fun v => V.fitM v → v.srt.nodes = v.nodes) (fun v hk h => ?_) v
  have hm := ((V.fitM_eq v).1 h).1
  rw [V.nodes_eq, V.nodes_eq v, Vs.nodes_sum, Vs.nodes_sum v.kids, ((srt_perm hm).map V.nodes).sum_nat, List.map_map]
  congr 2
  exact map_same (f := V.nodes ∘ V.srt) fun i hi => hk i hi (fit_get h i hi)
theorem sortV_nodes (v : V) : (sortV v).nodes = v.nodes := by
  unfold sortV
  by_cases h : okV v
  · rw [if_pos h, srt_nodes v (fit_right v 12 h.1)]
  · rw [if_neg h]
theorem map_unp {f : V → V} : ∀ (Z : List VP), (∀ x ∈ Z, f x.1 = x.1 ∧ f x.2 = x.2) → (unp Z).map f = unp Z
  | [], _ => rfl
  | x :: r, h => by
    have h1 := h x List.mem_cons_self
    simp only [unp, List.map_cons]
    rw [h1.1, h1.2, map_unp r fun y hy => h y (List.mem_cons_of_mem _ hy)]
theorem srt_srt (v : V) : V.fitM v → v.srt.srt = v.srt := by
  refine V.all (P := fun v => V.fitM v → v.srt.srt = v.srt) (fun v hk h => ?_) v
  have hm := ((V.fitM_eq v).1 h).1
  have hkid : ∀ x ∈ v.kids.map V.srt, x.srt = x := fun x hx => by
    obtain ⟨y, hy, rfl⟩ := List.mem_map.1 hx
    obtain ⟨i, hi, rfl⟩ := List.getElem_of_mem hy
    exact hk i hi (fit_get h i hi)
  have e : v.srt = .mk v.k v.n v.e v.s v.srt.kids := by
    have := V.eta v.srt
    rw [V.srt_eq] at this ⊢
    exact this
  by_cases h8 : v.k = 8
  · have hK : v.srt.kids = unp (sortP (prs (v.kids.map V.srt))) := by rw [srt_kids, if_pos h8]
    have hd := hm h8
    have hZ : ∀ x ∈ sortP (prs (v.kids.map V.srt)), x.1.srt = x.1 ∧ x.2.srt = x.2 := fun x hx => by
      have hx2 := (sortP_perm _).mem_iff.1 hx
      obtain ⟨j, hj, rfl⟩ := List.getElem_of_mem hx2
      obtain ⟨a, b, e⟩ := prs_get hj
      rw [e]
      exact ⟨hkid _ (List.getElem_mem a), hkid _ (List.getElem_mem b)⟩
    have hkey : ∀ x ∈ prs v.kids, x.1.srt = x.1 := fun x hx => srt_leaf (hd.2.2.1 x hx).1 (hd.2.2.1 x hx).2
    have huniq : ∀ x ∈ sortP (prs (v.kids.map V.srt)), ∀ y ∈ sortP (prs (v.kids.map V.srt)), V.cmp x.1 y.1 = 0 → x = y := fun x hx y hy hc => by
      have hx2 := (sortP_perm _).mem_iff.1 hx
      have hy2 := (sortP_perm _).mem_iff.1 hy
      rw [prs_srt] at hx2 hy2
      obtain ⟨a, ha, rfl⟩ := List.mem_map.1 hx2
      obtain ⟨b, hb, rfl⟩ := List.mem_map.1 hy2
      have := pw_ne hd.2.2.2.1 a ha b hb (by simpa [hkey a ha, hkey b hb] using hc)
      rw [this]
    have hS : sortP (sortP (prs (v.kids.map V.srt))) = sortP (prs (v.kids.map V.srt)) := (sortP_uniq (List.Perm.refl _) (sortP_pw _) huniq).symm
    rw [V.srt_eq v.srt, srt_k v, if_pos h8, hK, map_unp _ hZ, prs_unp, hS, ← hK]
    rw [e]
    rfl
  · have hK : v.srt.kids = v.kids.map V.srt := by rw [srt_kids, if_neg h8]
    rw [V.srt_eq v.srt, srt_k v, if_neg h8, hK]
    have : (v.kids.map V.srt).map V.srt = v.kids.map V.srt := by
      rw [List.map_map]
      refine List.map_congr_left fun x hx => ?_
      exact hkid _ (List.mem_map_of_mem hx)
    rw [this, ← hK]
    rw [e]
    rfl
theorem sortV_two (v : V) : sortV (sortV v) = sortV v := by
  by_cases h : okV v
  · have e : sortV v = v.srt := if_pos h
    rw [e]
    unfold sortV
    by_cases h2 : okV v.srt
    · rw [if_pos h2, srt_srt v (fit_right v 12 h.1)]
    · rw [if_neg h2]
  · have e : sortV v = v := if_neg h
    rw [e, e]
end Go.Proofs.YtcjamnfboifjeaaDoor

/-
  Deep: how many kids deep a value is.
-/
namespace Go.Proofs.YtcjamnfboifjeaaDoor
open Go.RowKit
set_option linter.unusedVariables false
set_option linter.unusedSimpArgs false

mutual
def V.deep : V → Nat
  | .mk _ _ _ _ ks => Vs.deep ks
def Vs.deep : List V → Nat
  | [] => 0
  | v :: r => max (v.deep + 1) (Vs.deep r)
end
theorem V.deep_eq (v : V) : v.deep = Vs.deep v.kids := by cases v; simp [V.deep, V.kids]
theorem Vs.deep_snoc (l : List V) (v : V) : Vs.deep (l ++ [v]) = max (Vs.deep l) (v.deep + 1) := by
  induction l with
  | nil => simp [Vs.deep]
  | cons a l ih => simp only [List.cons_append, Vs.deep, ih]; omega
theorem Vs.deep_step (l : List V) (i : Nat) (h : i < l.length) : Vs.deep (l.take (i + 1)) = max (Vs.deep (l.take i)) ((l[i]).deep + 1) := by
  rw [List.take_succ_eq_append_getElem h, Vs.deep_snoc]
mutual
theorem V.deep_le : ∀ v : V, v.deep + 1 ≤ v.nodes
  | .mk _ _ _ _ ks => by simp only [V.deep, V.nodes]; have := Vs.deep_le ks; omega
theorem Vs.deep_le : ∀ l : List V, Vs.deep l ≤ Vs.nodes l
  | [] => by simp [Vs.deep]
  | v :: r => by simp only [Vs.deep, Vs.nodes]; have h1 := V.deep_le v; have h2 := Vs.deep_le r; omega
end
def SpecDeepSaid (v : V) : Prop := ∀ (A : Option Addr) (cap : Nat) (w : World), v.nodes ≤ 1048577 → Vs.at_ w 0 w.heap.size v.kids A →
    Calls Tryd.prog 37 #[v.agg A cap] w fun e w' => e = .returned (.int .i64 v.deep) ∧ Below w.heap.size w w'

set_option maxHeartbeats 1000000 in
theorem specDeep_step (v : V) (hk : ∀ i (h : i < v.kids.length), SpecDeepSaid v.kids[i]) : SpecDeepSaid v := by
  intro A cap w hn hat
  have HD := Lib.hid (V.deep_eq v)
  rw [V.nodes_eq] at hn
  have hl : v.kids.length ≤ 1048576 := by have := Vs.len_nodes v.kids; omega
  have HK := fun (i : Nat) (h : i < v.kids.length) (A' : Option Addr) (c : Nat) (w' : World) (h1 : Vs.at_ w' 0 w'.heap.size (v.kids[i]).kids A') => hk i h A' c w' (by have := Vs.nodes_get i h; omega) h1
  have HC := Lib.hid HK
  clear HK hk
  have HA := Lib.hid hat
  clear hat
  unfold V.agg
  go_enter Tryd.func37, Tryd.ntmps37
  go_wp2_with fail
  go_loopw [3, 4] (fun d i wr => ∃ j : Nat, j ≤ v.kids.length ∧ i = .int .i64 j ∧ d = .int .i64 (Vs.deep (v.kids.take j)) ∧ Blk wr w.heap.size 28 #[.int .i64 v.k, .int .i64 v.n, .int .i64 v.e, .string v.s, .slice A v.kids.length cap] ∧ Below w.heap.size w wr) (fun _ i _ => v.kids.length - (intOf i).toNat)
  case atStart => exact ⟨0, Nat.zero_le _, rfl, rfl, Blk.new _ _ _, (Below.refl _ _).alloc (Nat.le_refl _) _⟩
  case round =>
    obtain ⟨j, hj, rfl, rfl, B, hb⟩ := hrel
    have b4 : wr.cell? ⟨w.heap.size, 4, none⟩ = some (.slice A v.kids.length cap) := B.cell 4
    by_cases hlt : j < v.kids.length
    · have hst := Vs.deep_step v.kids j hlt
      have hd1 := V.deep_le v.kids[j]
      have hd2 := Vs.nodes_get j hlt
      have hd3 := Vs.deep_le (v.kids.take j)
      have hd4 := Vs.nodes_take v.kids j
      have HST := Lib.hid hst
      clear hst
      obtain ⟨b, off, A', cap', rfl, g1, g2, g3, ⟨c0, c1, c2, c3, c4⟩, g5⟩ := Vs.at_get j hlt (Vs.at_below HA.out hb (Nat.le_refl _))
      go_wp2_with fail
      refine (HC.out j hlt A' cap' _ (Vs.at_more (Nat.le_refl _) hb.size _ _ g5)).mono ?_
      rintro e w1 ⟨rfl, hb1⟩
      have hbw : Below w.heap.size w w1 := hb.trans (hb1.mono hb.size)
      have B' := B.below hb1 B.lt
      clear c0 c1 c2 c3 c4 b4
      by_cases hm : (Vs.deep (v.kids.take j) : Int) < (v.kids[j]).deep + 1
      · go_wp2_with fail
        go_roundw
        case rel => exact ⟨j + 1, by omega, by go_num, by rw [HST.out]; go_num, B', hbw⟩
        case measure => simp [intOf]; omega
      · go_wp2_with fail
        go_roundw
        case rel => exact ⟨j + 1, by omega, by go_num, by rw [HST.out]; go_num, B', hbw⟩
        case measure => simp [intOf]; omega
    · obtain rfl : j = v.kids.length := by omega
      go_wp2_with fail
      go_ret
      exact ⟨ret_num (by rw [HD.out, List.take_length]), hb⟩
theorem specDeep : ∀ v, SpecDeepSaid v := V.all specDeep_step

def ImplDeepSaid (v : V) : Prop := ∀ (A : Option Addr) (cap : Nat) (w : World), v.nodes ≤ 1048577 → Vs.at_ w 0 w.heap.size v.kids A →
    Calls Tryd.prog 36 #[v.agg A cap] w fun e w' => e = .returned (.int .i64 v.deep) ∧ Below w.heap.size w w'

set_option maxHeartbeats 1000000 in
theorem implDeep_step (v : V) (hk : ∀ i (h : i < v.kids.length), ImplDeepSaid v.kids[i]) : ImplDeepSaid v := by
  intro A cap w hn hat
  have HD := Lib.hid (V.deep_eq v)
  rw [V.nodes_eq] at hn
  have hl : v.kids.length ≤ 1048576 := by have := Vs.len_nodes v.kids; omega
  have HK := fun (i : Nat) (h : i < v.kids.length) (A' : Option Addr) (c : Nat) (w' : World) (h1 : Vs.at_ w' 0 w'.heap.size (v.kids[i]).kids A') => hk i h A' c w' (by have := Vs.nodes_get i h; omega) h1
  have HC := Lib.hid HK
  clear HK hk
  have HA := Lib.hid hat
  clear hat
  unfold V.agg
  go_enter Tryd.func36, Tryd.ntmps36
  go_wp2_with fail
  go_loopw [3, 9] (fun d i wr => ∃ j : Nat, j ≤ v.kids.length ∧ i = .int .i64 j ∧ d = .int .i64 (Vs.deep (v.kids.take j)) ∧ Below w.heap.size w wr) (fun _ i _ => v.kids.length - (intOf i).toNat)
  case atStart => exact ⟨0, Nat.zero_le _, rfl, rfl, (Below.refl _ _).alloc (Nat.le_refl _) _⟩
  case round =>
    obtain ⟨j, hj, rfl, rfl, hb⟩ := hrel
    by_cases hlt : j < v.kids.length
    · have hst := Vs.deep_step v.kids j hlt
      have hd1 := V.deep_le v.kids[j]
      have hd2 := Vs.nodes_get j hlt
      have hd3 := Vs.deep_le (v.kids.take j)
      have hd4 := Vs.nodes_take v.kids j
      have HST := Lib.hid hst
      clear hst
      obtain ⟨b, off, A', cap', rfl, g1, g2, g3, ⟨c0, c1, c2, c3, c4⟩, g5⟩ := Vs.at_get j hlt (Vs.at_below HA.out hb (Nat.le_refl _))
      go_wp2_with fail
      refine (HC.out j hlt A' cap' _ (Vs.at_more (Nat.le_refl _) (by simp; exact Nat.le_succ_of_le hb.size) _ _ (Vs.at_alloc g5 hb.size _))).mono ?_
      rintro e w1 ⟨rfl, hb1⟩
      have hbw : Below w.heap.size w w1 := (hb.alloc hb.size _).trans (hb1.mono (by simp; exact Nat.le_succ_of_le hb.size))
      clear c0 c1 c2 c3 c4
      go_wp2_with fail
      go_roundw
      case rel => exact ⟨j + 1, by omega, by go_num, by rw [HST.out]; congr 1; first | (split <;> omega) | omega, hbw⟩
      case measure => simp [intOf]; omega
    · obtain rfl : j = v.kids.length := by omega
      go_wp2_with fail
      go_ret
      exact ⟨ret_num (by rw [HD.out, List.take_length]), hb⟩
theorem implDeep : ∀ v, ImplDeepSaid v := V.all implDeep_step
end Go.Proofs.YtcjamnfboifjeaaDoor

/-
  What a call keeps that may write into some blocks alone.
-/
namespace Go.Proofs.YtcjamnfboifjeaaDoor
open Go.RowKit
set_option linter.unusedVariables false
set_option linter.unusedSimpArgs false

/-- Only blocks of D may have changed, and what is D's behind it was D's or is new. -/
structure Keep (D : World → Nat → Prop) (w w' : World) : Prop where
  os : w'.os = w.os
  tape : w'.tape = w.tape
  output : w'.output = w.output
  size : w.heap.size ≤ w'.heap.size
  block : ∀ k, k < w.heap.size → ¬ D w k → w'.heap[k]? = w.heap[k]? ∧ ¬ D w' k
theorem Keep.trans {D : World → Nat → Prop} {a b c : World} (h : Keep D a b) (k : Keep D b c) : Keep D a c :=
  ⟨k.os.trans h.os, k.tape.trans h.tape, k.output.trans h.output, Nat.le_trans h.size k.size, fun i hi hd => by
    obtain ⟨h1, h2⟩ := h.block i hi hd
    obtain ⟨k1, k2⟩ := k.block i (Nat.lt_of_lt_of_le hi h.size) h2
    exact ⟨k1.trans h1, k2⟩⟩
theorem Keep.refl {D : World → Nat → Prop} (w : World) : Keep D w w := ⟨rfl, rfl, rfl, Nat.le_refl _, fun _ _ h => ⟨rfl, h⟩⟩

theorem Keep.below {D : World → Nat → Prop} {w w0 w1 : World} {B : Nat} (h : Keep D w0 w1) (hb : Below B w w0) (hB : B ≤ w0.heap.size) (hd : ∀ k, k < B → ¬ D w0 k) : Below B w w1 :=
  ⟨h.os.trans hb.os, h.tape.trans hb.tape, h.output.trans hb.output, Nat.le_trans hb.size h.size, fun k hk => (h.block k (Nat.lt_of_lt_of_le hk hB) (hd k hk)).1.trans (hb.block k hk)⟩
theorem Keep.at_ {D : World → Nat → Prop} {w w' : World} (h : Keep D w w') {lo hi : Nat} {l : List V} {A : Option Addr} (ha : Vs.at_ w lo hi l A) (hh : hi ≤ w.heap.size) (hd : ∀ k, k < hi → ¬ D w k) : Vs.at_ w' lo hi l A :=
  Vs.at_keep (fun p _ hp => World.cell?_of_block (h.block p.block (by omega) (hd _ hp)).1) _ _ ha
theorem Keep.blk {D : World → Nat → Prop} {w w' : World} (h : Keep D w w') {g : Nat} {t : TypeId} {cs : Array Value} (hb : Blk w g t cs) (hd : ¬ D w g) : Blk w' g t cs ∧ ¬ D w' g :=
  ⟨(h.block g hb.lt hd).1.trans hb, (h.block g hb.lt hd).2⟩

theorem Blk.set1 {w : World} {g : Nat} {t : TypeId} {u : Value} (h : Blk w g t #[u]) (u' : Value) : Blk (w.setCell ⟨g, 0, none⟩ u') g t #[u'] := one_setCell h
/-- A store into the one captured variable. -/
theorem keep_set1 {g : Nat} {w : World} {a : World} (h : Keep (fun _ k => k = g) a w) (u : Value) : Keep (fun _ k => k = g) a (w.setCell ⟨g, 0, none⟩ u) :=
  ⟨h.os, h.tape, h.output, by simpa using h.size, fun k hk hd => ⟨(Below.heap_setCell w ⟨g, 0, none⟩ u k (by simpa using hd)).trans (h.block k hk hd).1, hd⟩⟩
theorem keep_alloc1 {g : Nat} {a w : World} (h : Keep (fun _ k => k = g) a w) (o : Obj) : Keep (fun _ k => k = g) a (w.alloc o) :=
  ⟨h.os, h.tape, h.output, Nat.le_trans h.size (by simp), fun k hk hd => ⟨(Below.heap_alloc w o k (Nat.lt_of_lt_of_le hk h.size)).trans (h.block k hk hd).1, hd⟩⟩
end Go.Proofs.YtcjamnfboifjeaaDoor

/-
  The program's walk over a value, node by node, with whatever function is handed to it.
-/
namespace Go.Proofs.YtcjamnfboifjeaaDoor
open Go.RowKit
set_option linter.unusedVariables false
set_option linter.unusedSimpArgs false

mutual
/-- The values in a value, itself first. -/
def V.pre : V → List V
  | .mk k n e s ks => .mk k n e s ks :: Vs.pre ks
def Vs.pre : List V → List V
  | [] => []
  | v :: r => v.pre ++ Vs.pre r
end
theorem V.pre_eq (v : V) : v.pre = v :: Vs.pre v.kids := by cases v; simp [V.pre, V.kids]
theorem Vs.pre_snoc (l : List V) (v : V) : Vs.pre (l ++ [v]) = Vs.pre l ++ v.pre := by
  induction l with
  | nil => simp [Vs.pre]
  | cons a l ih => simp only [List.cons_append, Vs.pre, ih, List.append_assoc]
theorem Vs.pre_step (l : List V) (i : Nat) (h : i < l.length) : Vs.pre (l.take (i + 1)) = Vs.pre (l.take i) ++ (l[i]).pre := by
  rw [List.take_succ_eq_append_getElem h, Vs.pre_snoc]

mutual
theorem V.pre_len : ∀ v : V, v.pre.length = v.nodes
  | .mk _ _ _ _ ks => by simp only [V.pre, V.nodes, List.length_cons]; rw [Vs.pre_len ks]
theorem Vs.pre_len : ∀ l : List V, (Vs.pre l).length = Vs.nodes l
  | [] => by simp [Vs.pre, Vs.nodes]
  | v :: r => by simp only [Vs.pre, Vs.nodes, List.length_append]; rw [V.pre_len v, Vs.pre_len r]
end
theorem take_pre_len (l : List V) (j : Nat) (h : j < l.length) : (Vs.pre (l.take j)).length + (l[j]).nodes ≤ Vs.nodes l := by
  rw [Vs.pre_len]
  have h1 : ∀ (a : List V) (i : Nat), Vs.nodes (a.take i) + Vs.nodes (a.drop i) = Vs.nodes a := by
    intro a
    induction a with
    | nil => intro i; simp [Vs.nodes]
    | cons x a ih =>
      intro i
      cases i with
      | zero => simp [Vs.nodes]
      | succ i => simp only [List.take_succ_cons, List.drop_succ_cons, Vs.nodes]; have := ih i; omega
  have h2 := h1 l j
  rw [List.drop_eq_getElem_cons h] at h2
  simp only [Vs.nodes] at h2
  omega
/-- What is asked of the function that is called for each node. -/
structure Yields (F : FuncId) (caps : Array Value) (Inv : List V → World → Prop) (D : World → Nat → Prop) (N : Nat) : Prop where
  step : ∀ xs x A c w hi, Inv xs w → Vs.at_ w 0 hi x.kids A → hi ≤ w.heap.size → (∀ k, k < hi → ¬ D w k) → x.nodes ≤ 1048577 → xs.length + 1 ≤ N →
    Calls Tryd.prog F (#[x.agg A c] ++ caps) w fun e w' => e = .returned (.tuple #[]) ∧ Inv (xs ++ [x]) w' ∧ Keep D w w'
  enters : ∀ (args : Array Value) (w : World), (callFunc F args).run Tryd.prog w = .ok (.enter F args) w
  alloc : ∀ xs w o, Inv xs w → Inv xs (w.alloc o) ∧ ∀ k, D (w.alloc o) k → D w k ∧ k < w.heap.size

def WalkSaid (F : FuncId) (caps : Array Value) (Inv : List V → World → Prop) (D : World → Nat → Prop) (N : Nat) (v : V) : Prop :=
  ∀ (A : Option Addr) (c : Nat) (xs : List V) (w : World) (hi : Nat), Inv xs w → Vs.at_ w 0 hi v.kids A → hi ≤ w.heap.size → (∀ k, k < hi → ¬ D w k) → v.nodes ≤ 1048577 → xs.length + v.nodes ≤ N →
    Calls Tryd.prog 69 #[v.agg A c, .func (Fn.func F) #[] caps] w fun e w' => e = .returned (.tuple #[]) ∧ Inv (xs ++ v.pre) w' ∧ Keep D w w'

theorem Yields.kept {F : FuncId} {caps : Array Value} {Inv : List V → World → Prop} {D : World → Nat → Prop} {N : Nat} (Y : Yields F caps Inv D N) {xs : List V} {w : World} (h : Inv xs w) (o : Obj) : Keep D w (w.alloc o) :=
  ⟨rfl, rfl, rfl, by simp, fun k hk hd => ⟨Below.heap_alloc w o k hk, fun h' => hd ((Y.alloc xs w o h).2 k h').1⟩⟩
/-- What holds behind j kids. -/
def WRel (Inv : List V → World → Prop) (D : World → Nat → Prop) (xs : List V) (v : V) (w : World) (hi j : Nat) (wr : World) : Prop :=
  Inv (xs ++ v :: Vs.pre (v.kids.take j)) wr ∧ Keep D w wr ∧ ∀ k, k < hi → ¬ D wr k
theorem wrel_next {Inv : List V → World → Prop} {xs : List V} {v : V} {w : World} {j : Nat} (hlt : j < v.kids.length) (h : Inv (xs ++ v :: Vs.pre (v.kids.take j) ++ (v.kids[j]).pre) w) : Inv (xs ++ v :: Vs.pre (v.kids.take (j + 1))) w := by
  rw [Vs.pre_step _ j hlt]
  simpa using h

set_option maxHeartbeats 2000000 in
theorem walk_step {F : FuncId} {caps : Array Value} {Inv : List V → World → Prop} {D : World → Nat → Prop} {N : Nat} (Y : Yields F caps Inv D N) (v : V) (hk : ∀ i (h : i < v.kids.length), WalkSaid F caps Inv D N v.kids[i]) : WalkSaid F caps Inv D N v := by
  intro A c xs w hi hinv hat hhi hD hn hN
  have HP := Lib.hid (V.pre_eq v)
  have HN := Lib.hid (V.nodes_eq v)
  have hl : v.kids.length ≤ 1048576 := by have := Vs.len_nodes v.kids; have := HN.out; omega
  have hN1 : xs.length + 1 ≤ N := by have := HN.out; omega
  have HC := Lib.hid hk
  have HY := Lib.hid Y
  have HI := Lib.hid hinv
  have HA := Lib.hid hat
  have HD := Lib.hid hD
  have hE := Y.enters
  clear hk Y hinv hat hD
  unfold V.agg
  go_enter Tryd.func69, Tryd.ntmps69
  go_wp2_with fail
  have BX := Blk.new w 28 #[.int .i64 v.k, .int .i64 v.n, .int .i64 v.e, .string v.s, .slice A v.kids.length c]
  obtain ⟨HI1, HD1⟩ := HY.out.alloc xs w (.cells #[.int .i64 v.k, .int .i64 v.n, .int .i64 v.e, .string v.s, .slice A v.kids.length c] 28) HI.out
  have K1 := HY.out.kept HI.out (.cells #[.int .i64 v.k, .int .i64 v.n, .int .i64 v.e, .string v.s, .slice A v.kids.length c] 28)
  have hd1 : ∀ k, k < hi → ¬ D (w.alloc (.cells #[.int .i64 v.k, .int .i64 v.n, .int .i64 v.e, .string v.s, .slice A v.kids.length c] 28)) k := fun k hk h => HD.out k hk (HD1 k h).1
  have hdx : ¬ D (w.alloc (.cells #[.int .i64 v.k, .int .i64 v.n, .int .i64 v.e, .string v.s, .slice A v.kids.length c] 28)) w.heap.size := fun h => absurd (HD1 _ h).2 (Nat.lt_irrefl _)
  have HD2 := Lib.hid hd1
  have HDX := Lib.hid hdx
  clear hd1 hdx HD1
  refine (HY.out.step xs v A c _ hi HI1 (Vs.at_alloc HA.out hhi _) (by simp; omega) HD2.out hn hN1).mono ?_
  rintro e w1 ⟨rfl, hi1, k1⟩
  obtain ⟨BX1, hdx1⟩ := k1.blk BX HDX.out
  have at1 := k1.at_ (Vs.at_alloc HA.out hhi _) (by simp; omega) HD2.out
  have K2 := K1.trans k1
  have hD2 : ∀ k, k < hi → ¬ D w1 k := fun k hk => (k1.block k (by simp; omega) (HD2.out k hk)).2
  have hhi1 : hi ≤ w1.heap.size := Nat.le_trans hhi K2.size
  have b4 : w1.cell? ⟨w.heap.size, 4, none⟩ = some (.slice A v.kids.length c) := BX1.cell 4
  have HB := Lib.hid BX1
  have HX := Lib.hid hdx1
  have HI2 := Lib.hid hi1
  have HA1 := Lib.hid at1
  have HK2 := Lib.hid K2
  have HDD := Lib.hid hD2
  clear BX1 hdx1 hi1 at1 K2 hD2 k1 K1 HI1 BX
  go_wp2_with fail
  go_loopw [12] (fun i wr => ∃ j : Nat, j ≤ v.kids.length ∧ i = .int .i64 j ∧ WRel Inv D xs v w hi j wr) (fun i _ => v.kids.length - (intOf i).toNat)
  case atStart => exact ⟨0, Nat.zero_le _, rfl, by simpa [Vs.pre] using HI2.out, HK2.out, HDD.out⟩
  case round =>
    obtain ⟨j, hj, rfl, r1, r2, r3⟩ := hrel
    by_cases hlt : j < v.kids.length
    · have hhr : hi ≤ wr.heap.size := Nat.le_trans hhi r2.size
      obtain ⟨b, off, A', cap', rfl, g1, g2, g3, ⟨c0, c1, c2, c3, c4⟩, g5⟩ := Vs.at_get j hlt (r2.at_ HA.out hhi HD.out)
      have R1 := Lib.hid r1
      have R2 := Lib.hid r2
      have R3 := Lib.hid r3
      clear r1 r2 r3 b4
      go_wp2_with fail
      have e2 := HY.out.alloc _ wr (.cells #[.int .i64 (v.kids[j]).k, .int .i64 (v.kids[j]).n, .int .i64 (v.kids[j]).e, .string (v.kids[j]).s, .slice A' (v.kids[j]).kids.length cap'] 28) R1.out
      have k2 := HY.out.kept R1.out (.cells #[.int .i64 (v.kids[j]).k, .int .i64 (v.kids[j]).n, .int .i64 (v.kids[j]).e, .string (v.kids[j]).s, .slice A' (v.kids[j]).kids.length cap'] 28)
      have hd2 : ∀ k, k < hi → ¬ D (wr.alloc (.cells #[.int .i64 (v.kids[j]).k, .int .i64 (v.kids[j]).n, .int .i64 (v.kids[j]).e, .string (v.kids[j]).s, .slice A' (v.kids[j]).kids.length cap'] 28)) k := fun k hk h => R3.out k hk (e2.2 k h).1
      refine (HC.out j hlt A' cap' _ _ hi e2.1 (Vs.at_alloc g5 hhr _) (by simp; omega) hd2 (by have := Vs.nodes_get j hlt; have := HN.out; omega) (by have := take_pre_len v.kids j hlt; have := HN.out; simp; omega)).mono ?_
      rintro e w3 ⟨rfl, hi3, k3⟩
      have K3 := (R2.out.trans k2).trans k3
      have hd3 : ∀ k, k < hi → ¬ D w3 k := fun k hk => (k3.block k (by simp; omega) (hd2 k hk)).2
      have HK3 := Lib.hid K3
      have HD3 := Lib.hid hd3
      have HI3 := Lib.hid hi3
      clear c0 c1 c2 c3 c4 K3 hd3 hi3 k3 hd2 k2 e2
      go_wp2_with fail
      go_roundw
      case rel => exact ⟨j + 1, by omega, by go_num, wrel_next hlt HI3.out, HK3.out, HD3.out⟩
      case measure => simp [intOf]; omega
    · obtain rfl : j = v.kids.length := by omega
      have R1 := Lib.hid r1
      have R2 := Lib.hid r2
      clear r1 r2 r3 b4
      go_wp2_with fail
      go_end0
      refine ⟨rfl, ?_, R2.out⟩
      have h := R1.out
      rw [List.take_length] at h
      rw [HP.out]
      exact h
theorem walk_any {F : FuncId} {caps : Array Value} {Inv : List V → World → Prop} {D : World → Nat → Prop} {N : Nat} (Y : Yields F caps Inv D N) : ∀ v, WalkSaid F caps Inv D N v := V.all (walk_step Y)
end Go.Proofs.YtcjamnfboifjeaaDoor

/-
  Functions that hold one variable of their maker's; the values in a value counted.
-/
namespace Go.Proofs.YtcjamnfboifjeaaDoor
open Go.RowKit
set_option linter.unusedVariables false
set_option linter.unusedSimpArgs false

end Go.Proofs.YtcjamnfboifjeaaDoor

/-
  A text as a cell; rows of texts.
-/
namespace Go.Proofs.YtcjamnfboifjeaaDoor
open Go.RowKit
set_option linter.unusedVariables false

/-- A text as a cell. -/
def tv (s : ByteArray) : Value := .string s
theorem row_form {w : World} {base : Nat} {e : TypeId} {o : Value} {n : Nat} {xs : List Value} (h : w.ownsRow base e 1 o n xs) : ∃ A c, o = .slice A n c ∧ (0 < n → ∃ g, A = some ⟨g, 0, none⟩) := by
  rcases h.2 with ⟨rfl, rfl⟩ | ⟨g, c, cur, rfl, _⟩
  · exact ⟨none, 0, rfl, fun h => absurd h (by omega)⟩
  · exact ⟨_, _, rfl, fun _ => ⟨g, rfl⟩⟩
theorem row_cell {w : World} {base g c : Nat} {e : TypeId} {l : List ByteArray} (h : w.ownsRow base e 1 (.slice (some ⟨g, 0, none⟩) l.length c) l.length (l.map tv)) (j : Nat) (hj : j < l.length) : w.cell? ⟨g, j, none⟩ = some (.string l[j]) := by
  rw [h.cellAt j (by omega)]
  simp [hj, tv]
end Go.Proofs.YtcjamnfboifjeaaDoor
