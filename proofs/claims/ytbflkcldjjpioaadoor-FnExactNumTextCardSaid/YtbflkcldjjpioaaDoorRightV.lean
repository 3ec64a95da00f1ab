/-
  A right value, as the program asks it; that is what the reference asks, where there are not too many nodes.
-/
import Derived.Test.YtbflkcldjjpioaaDoorRightP
namespace Go.Proofs.YtbflkcldjjpioaaDoor
open Go.RowKit
set_option linter.unusedVariables false
set_option maxRecDepth 100000

mutual
/-- A value is right as the program asks it, at most so many kids deep. -/
def V.rightI : Int → V → Prop
  | d, .mk k n e s ks => 0 ≤ d ∧ nodeOk (.mk k n e s ks) ∧ kidsI (.mk k n e s ks) ∧ Vs.rightI (d - 1) ks
def Vs.rightI : Int → List V → Prop
  | _, [] => True
  | d, v :: r => V.rightI d v ∧ Vs.rightI d r
end
theorem V.rightI_eq (d : Int) (v : V) : V.rightI d v ↔ 0 ≤ d ∧ nodeOk v ∧ kidsI v ∧ Vs.rightI (d - 1) v.kids := by cases v; simp [V.rightI, V.kids]
theorem Vs.rightI_iff (d : Int) : ∀ l : List V, Vs.rightI d l ↔ ∀ i (h : i < l.length), V.rightI d l[i]
  | [] => by simp [Vs.rightI]
  | v :: r => by
    simp only [Vs.rightI]
    rw [Vs.rightI_iff d r]
    constructor
    · rintro ⟨h1, h2⟩ i hi
      cases i with
      | zero => exact h1
      | succ i => exact h2 i (by simpa using hi)
    · intro h
      exact ⟨h 0 (by simp), fun i hi => h (i + 1) (by simpa using hi)⟩
theorem Vs.rightI_take (d : Int) (l : List V) (h : Vs.rightI d (l.take l.length)) : Vs.rightI d l := by rwa [List.take_length] at h
theorem Vs.rightI_step (d : Int) (l : List V) (j : Nat) (hj : j < l.length) (h : Vs.rightI d (l.take j)) (hv : V.rightI d l[j]) : Vs.rightI d (l.take (j + 1)) := by
  rw [Vs.rightI_iff] at h ⊢
  intro i hi
  rw [List.length_take] at hi
  by_cases e : i = j
  · subst e; simpa using hv
  · have := h i (by rw [List.length_take]; omega)
    simpa using this

/-- A key that is right has no kids and no e. -/
def leafy (v : V) : Prop := v.e = 0 ∧ v.kids.length = 0
theorem leafy_right {d : Int} {v : V} (h : V.right d v) (hk : isKeyB v = true) : leafy v := by
  obtain ⟨_, ⟨h1, h2⟩, _⟩ := (V.right_eq d v).1 h
  have hk' : v.k = 5 ∨ v.k = 3 := by simpa [isKeyB] using hk
  unfold nodeOk at h1
  unfold kidsOk at h2
  rcases hk' with hk' | hk' <;> simp [hk'] at h1 h2
  · exact ⟨h1.2.1, by simp [h2]⟩
  · exact ⟨h1.1, by simp [h2]⟩
theorem keySame_iff {a b : V} (ha : leafy a) (hb : leafy b) : keySame a b ↔ keyEq a b := by
  unfold keySame keyEq
  constructor
  · intro h
    have h0 : V.ord b a = 0 := by
      by_cases h0 : V.ord b a = 0
      · exact h0
      · rw [V.same_no h0] at h; cases h
    obtain ⟨h1, h2, h3, h4, h5⟩ := (V.ord_iff b a).1 h0
    exact ⟨h1.symm, h2.symm, h4.symm⟩
  · rintro ⟨h1, h2, h3⟩
    rw [V.same_yes h1.symm h2.symm (by rw [ha.1, hb.1]) h3.symm]
    have e1 : a.kids = [] := List.eq_nil_of_length_eq_zero ha.2
    have e2 : b.kids = [] := List.eq_nil_of_length_eq_zero hb.2
    rw [e1, e2]
    unfold Vs.same
    exact decide_eq_true ⟨rfl, by simp [Vs.cmp]⟩
theorem pairsTo_iff {l : List V} (h : ∀ i (hi : i < l.length), isKeyB l[i] = true → leafy l[i]) (m : Nat) : pairsTo keySame l m ↔ pairsTo keyEq l m := by
  unfold pairsTo
  constructor
  · intro hp i hi hm he
    obtain ⟨h1, h2⟩ := hp i hi hm he
    refine ⟨h1, fun k hk hke hq => h2 k hk hke ((keySame_iff (h k (by omega) (hp k (by omega) (by omega) hke).1) (h i hi h1)).2 hq)⟩
  · intro hp i hi hm he
    obtain ⟨h1, h2⟩ := hp i hi hm he
    refine ⟨h1, fun k hk hke hq => h2 k hk hke ((keySame_iff (h k (by omega) (hp k (by omega) (by omega) hke).1) (h i hi h1)).1 hq)⟩
theorem kidsI_iff {d : Int} {v : V} (h : Vs.right d v.kids) (hn : v.kids.length ≤ 300) : kidsI v ↔ kidsOk v := by
  unfold kidsI kidsOk
  have h2 : pairsI v.kids ↔ pairsOk v.kids := by
    unfold pairsI pairsOk
    rw [pairsTo_iff (fun i hi hk => leafy_right ((Vs.right_iff _ _).1 h i hi) hk)]
    exact ⟨fun ⟨a, b⟩ => ⟨a, b, hn⟩, fun ⟨a, b, _⟩ => ⟨a, b⟩⟩
  rw [h2]
theorem rightI_iff : ∀ v : V, v.nodes ≤ 301 → ∀ d, V.rightI d v ↔ V.right d v := by
  refine V.all fun v hk hn d => ?_
  have hkids : Vs.rightI (d - 1) v.kids ↔ Vs.right (d - 1) v.kids := by
    rw [Vs.rightI_iff, Vs.right_iff]
    have h1 : ∀ i (h : i < v.kids.length), (v.kids[i]).nodes ≤ 301 := fun i h => by have := Vs.nodes_get i h; have := V.nodes_eq v; omega
    exact ⟨fun h i hi => (hk i hi (h1 i hi) _).1 (h i hi), fun h i hi => (hk i hi (h1 i hi) _).2 (h i hi)⟩
  rw [V.rightI_eq, V.right_eq, hkids]
  have hl : v.kids.length ≤ 300 := by have := Vs.len_nodes v.kids; have := V.nodes_eq v; omega
  unfold ownOk
  constructor
  · rintro ⟨a, b, c, e⟩; exact ⟨a, ⟨b, (kidsI_iff e hl).1 c⟩, e⟩
  · rintro ⟨a, ⟨b, c⟩, e⟩; exact ⟨a, b, (kidsI_iff e hl).2 c, e⟩
/-- What is asked of a value where there may be so many nodes. -/
def inV (L : Nat) (d : Int) (v : V) : Prop := v.nodes ≤ L ∧ V.rightI (12 - d) v
theorem inV_okV (v : V) : inV 300 0 v ↔ okV v := by
  unfold inV okV
  constructor
  · rintro ⟨h1, h2⟩; exact ⟨(rightI_iff v (by omega) _).1 (by simpa using h2), h1⟩
  · rintro ⟨h1, h2⟩; exact ⟨h2, (rightI_iff v (by omega) _).2 (by simpa using h1)⟩
end Go.Proofs.YtbflkcldjjpioaaDoor
