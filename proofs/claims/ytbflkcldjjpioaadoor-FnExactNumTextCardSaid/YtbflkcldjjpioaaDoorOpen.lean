/-
  An argument that is a value of the laws, read as a tree.
-/
import Derived.Test.YtbflkcldjjpioaaDoorTree
namespace Go.Proofs.YtbflkcldjjpioaaDoor
open Go.RowKit Go.ChangeShapes Go.WideShapes Go.Deep
set_option linter.unusedVariables false
set_option linter.unusedSimpArgs false
set_option maxRecDepth 100000

theorem cellsLV : Tryd.prog.cellsOf 29 = 5 := by kernel_rfl
theorem cellsInt : Tryd.prog.cellsOf 3 = 1 := by kernel_rfl
theorem cellsStr : Tryd.prog.cellsOf 9 = 1 := by kernel_rfl
theorem cellsLVs : Tryd.prog.cellsOf 27 = 1 := by kernel_rfl

theorem inI_of_wf {n : Int} (h : (Lit.int .i64 n).wf = true) : inI n := by
  unfold inI
  simpa [Lit.wf, IntKind.min, IntKind.max, IntKind.signed, IntKind.bits] using h

/-- One tree out of many: for every i below n there is a value. -/
theorem choose_V {n : Nat} {R : Nat → V → Prop} (h : ∀ i, i < n → ∃ v, R i v) : ∃ l : List V, l.length = n ∧ ∀ i (hi : i < l.length), R i l[i] := by
  induction n with
  | zero => exact ⟨[], rfl, fun i hi => absurd hi (by simp)⟩
  | succ n ih =>
    obtain ⟨l, hl, hR⟩ := ih fun i hi => h i (by omega)
    obtain ⟨v, hv⟩ := h n (by omega)
    refine ⟨l ++ [v], by simp [hl], fun i hi => ?_⟩
    by_cases he : i < l.length
    · rw [List.getElem_append_left he]; exact hR i he
    · have hin : i = l.length := by simp at hi; omega
      subst hin
      simp
      rw [hl]; exact hv
theorem Vs.fits_of : ∀ (l : List V), (∀ i (h : i < l.length), (l[i]).fits) → Vs.fits l
  | [], _ => by simp only [Vs.fits]
  | v :: r, h => by
    simp only [Vs.fits]
    exact ⟨h 0 (Nat.zero_lt_succ _), Vs.fits_of r fun i hi => h (i + 1) (Nat.succ_lt_succ hi)⟩

section
variable {H : Type} {enc : TypeId × Value → H} {W : World} {sp : Nat → Bool} {held : Bool}

theorem open_V : ∀ (fuel : Nat) (cs : List Value) (x : DataW H × List MemPlace), DataW.trod enc Tryd.prog W 0 sp held fuel 29 cs = some x →
    ∃ (v : V) (A : Option Addr) (cap : Nat), cs = [.int .i64 v.k, .int .i64 v.n, .int .i64 v.e, .string v.s, .slice A v.kids.length cap] ∧ v.kids.length ≤ cap ∧ v.fits ∧ Vs.at_ W 0 W.heap.size v.kids A := by
  intro fuel
  induction fuel using Nat.strongRecOn with
  | _ fuel ih =>
  intro cs x h
  obtain ⟨xs, m, hfu, rfl, hlen, hl, hf⟩ := DataW.trod_struct Tryd.underlying29 h
  rw [cellsLV] at hlen
  match cs, hlen with
  | [v0, v1, v2, v3, v4], _ =>
  match xs, hl with
  | [y0, y1, y2, y3, y4], _ =>
  have f0 := hf 0 _ rfl
  have f1 := hf 1 _ rfl
  have f2 := hf 2 _ rfl
  have f3 := hf 3 _ rfl
  have f4 := hf 4 _ rfl
  simp [cellsInt, cellsStr, cellsLVs] at f0 f1 f2 f3 f4
  obtain ⟨k, e0, _, wk⟩ := DataW.trod_int Tryd.underlying3 f0
  obtain ⟨n, e1, _, wn⟩ := DataW.trod_int Tryd.underlying3 f1
  obtain ⟨e, e2, _, we⟩ := DataW.trod_int Tryd.underlying3 f2
  obtain ⟨s, e3, _, hs⟩ := DataW.trod_string Tryd.underlying9 f3
  simp only [List.cons.injEq, and_true] at e0 e1 e2 e3
  subst e0 e1 e2 e3
  have rk := inI_of_wf wk
  have rn := inI_of_wf wn
  have re := inI_of_wf we
  unfold maxLen at hs
  rcases DataW.trod_slice Tryd.underlying27 f4 with ⟨e4, _⟩ | ⟨a, len, cap, elems, rest, n', hm, e4, _, hb, hlc, hcm, hel, hat, _⟩
  · simp only [List.cons.injEq, and_true] at e4
    subst e4
    exact ⟨.mk k n e s [], none, 0, rfl, Nat.le_refl _, by simp [V.fits, Vs.fits, hs, rk, rn, re], by simp [V.kids, Vs.at_]⟩
  · simp only [List.cons.injEq, and_true] at e4
    subst e4
    unfold maxLen at hcm
    rw [cellsLV] at hat
    have hone : ∀ i, i < len → ∃ v : V, ∃ A' cap', v.kids.length ≤ cap' ∧ v.fits ∧ (∃ b off, a = ⟨b, off, none⟩ ∧ b < W.heap.size ∧ CellsAt W b (off + i * 5) v A' cap') ∧ Vs.at_ W 0 W.heap.size v.kids A' := by
      intro i hi
      have h1 := hat i hi
      have h2 : elems[i]? = some (elems[i]'(by omega)) := List.getElem?_eq_getElem (by omega)
      rw [h2] at h1
      obtain ⟨cs', hc, ht⟩ := Option.bind_eq_some_iff.1 h1
      obtain ⟨v, A', cap', rfl, g1, g2, g3⟩ := ih n' (by omega) cs' _ ht
      obtain ⟨_, hcl, hcell⟩ := World.cells?_some hc
      have q := fun j (hj : j < 5) => hcell j hj
      have h10 := hat 0 (by omega)
      have h20 : elems[0]? = some (elems[0]'(by omega)) := List.getElem?_eq_getElem (by omega)
      rw [h20] at h10
      obtain ⟨cs0, hc0, _⟩ := Option.bind_eq_some_iff.1 h10
      obtain ⟨_, hcl0, hcell0⟩ := World.cells?_some hc0
      have p0 : ∃ u, W.cell? a = some u := by
        have := hcell0 0 (by omega)
        rw [List.getElem?_eq_getElem (by omega)] at this
        simp [Addr.add] at this
        exact ⟨_, this⟩
      obtain ⟨u0, p0⟩ := p0
      obtain ⟨b, off, spot⟩ := a
      have hspot : spot = none := World.cell?_spot p0
      subst hspot
      have ad : ∀ j, ((⟨b, off, none⟩ : Addr).add (i * 5)).add j = ⟨b, off + i * 5 + j, none⟩ := fun j => by rw [Addr.add_lit, Addr.add_lit]
      have q0 := q 0 (by omega)
      have q1 := q 1 (by omega)
      have q2 := q 2 (by omega)
      have q3 := q 3 (by omega)
      have q4 := q 4 (by omega)
      rw [ad] at q0 q1 q2 q3 q4
      exact ⟨v, A', cap', g1, g2, ⟨b, off, rfl, World.block_lt_of_cell? W ⟨b, off + i * 5 + 0, none⟩ q0, ⟨q0, q1, q2, q3, q4⟩⟩, g3⟩
    obtain ⟨l, hll, hR⟩ := choose_V hone
    subst hll
    refine ⟨.mk k n e s l, some a, cap, rfl, hlc, ?_, ?_⟩
    · simp only [V.fits]
      exact ⟨hs, by omega, (Vs.fits_of l fun i hi => by obtain ⟨_, _, _, hf, _⟩ := hR i hi; exact hf), rk, rn, re⟩
    · show Vs.at_ W 0 W.heap.size l (some a)
      by_cases h0 : l.length = 0
      · have : l = [] := List.eq_nil_of_length_eq_zero h0
        subst this
        simp only [Vs.at_]
      · obtain ⟨_, _, _, _, ⟨b, off, rfl, hbl, _⟩, _⟩ := hR 0 (by omega)
        refine Vs.at_of (Nat.zero_le _) hbl l off fun i hi => ?_
        obtain ⟨A', cap', r1, _, ⟨b', off', e, _, r2⟩, r3⟩ := hR i hi
        injection e with e1 e2
        subst e1 e2
        exact ⟨A', cap', r1, r2, r3⟩

/-- A value of the laws that came in. -/
theorem open_value {v : Value} {d : DataW H} {p : List MemPlace} {r : Reach} {b0 : Nat} (hv : Value.okWide Tryd.prog W r b0 29 v) (h : DataW.Trod enc Tryd.prog W 0 sp held 29 v d p) :
    ∃ (t : V) (A : Option Addr) (cap : Nat), v = t.agg A cap ∧ t.fits ∧ Vs.at_ W 0 W.heap.size t.kids A := by
  obtain ⟨cs, rfl, hsz⟩ := okWide_struct Tryd.underlying29 hv
  obtain ⟨fuel, hf⟩ := h
  obtain ⟨t, A, cap, e, _, h1, h2⟩ := open_V fuel _ _ hf
  refine ⟨t, A, cap, ?_, h1, h2⟩
  unfold V.agg
  congr 1
  apply Array.ext'
  simpa [Value.cells] using e
end
end Go.Proofs.YtbflkcldjjpioaaDoor
