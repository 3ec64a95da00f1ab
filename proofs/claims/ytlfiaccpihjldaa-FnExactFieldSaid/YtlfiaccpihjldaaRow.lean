/-
  A row of values that grows by appends: its cells, and where the values' own rows lie.
-/
import Derived.Test.YtlfiaccpihjldaaTo2
namespace Go.Proofs.Ytlfiaccpihjldaa
open Go.RowKit
set_option linter.unusedVariables false
set_option linter.unusedSimpArgs false

/-- A value, where its kids lie, and the room there. -/
abbrev Ent := V × Option Addr × Nat
def Ent.cells (x : Ent) : List Value := [.int .i64 x.1.k, .int .i64 x.1.n, .int .i64 x.1.e, .string x.1.s, .slice x.2.1 x.1.kids.length x.2.2]
def flat (es : List Ent) : List Value := es.flatMap Ent.cells
theorem flat_len (es : List Ent) : (flat es).length = es.length * 5 := by
  induction es with
  | nil => rfl
  | cons a l ih => simp only [flat, List.flatMap_cons, List.length_append, List.length_cons] at *; rw [ih]; simp [Ent.cells]; omega
theorem flat_append (a b : List Ent) : flat (a ++ b) = flat a ++ flat b := by simp [flat]
theorem flat_one (x : Ent) : flat [x] = x.cells := by simp [flat]
theorem flat_ones (es : List Ent) : ∀ u ∈ flat es, u.oneCell' = true := by
  intro u hu
  obtain ⟨x, _, hx⟩ := List.mem_flatMap.1 hu
  simp [Ent.cells] at hx
  rcases hx with rfl | rfl | rfl | rfl | rfl <;> rfl
theorem flat_at (es : List Ent) : ∀ (j q : Nat) (h : j < es.length), q < 5 → (flat es)[j * 5 + q]? = (es[j].cells)[q]? := by
  induction es with
  | nil => intro j q h; simp at h
  | cons a l ih =>
    intro j q h hq
    have e : flat (a :: l) = a.cells ++ flat l := rfl
    have hl : a.cells.length = 5 := rfl
    rw [e]
    cases j with
    | zero => rw [List.getElem?_append_left (by omega)]; simp
    | succ j =>
      rw [List.getElem?_append_right (by omega), show (j + 1) * 5 + q - a.cells.length = j * 5 + q by omega, ih j q (by simpa using h) hq]
      rfl

/-- Each value's kids' rows, in blocks of their own. -/
def kidsLie (w : World) : List Ent → List Nat → Prop
  | [], G => G = []
  | x :: r, G => ∃ G1 G2, G = G1 ++ G2 ∧ x.1.kids.length ≤ x.2.2 ∧ V.lies w x.1 x.2.1 G1 ∧ kidsLie w r G2
theorem kidsLie_lt {w : World} : ∀ (es : List Ent) (G : List Nat), kidsLie w es G → ∀ c ∈ G, c < w.heap.size
  | [], G, h, c, hc => by simp only [kidsLie] at h; subst h; cases hc
  | x :: r, G, h, c, hc => by
    simp only [kidsLie] at h
    obtain ⟨G1, G2, rfl, _, h3, h4⟩ := h
    rcases List.mem_append.1 hc with hc | hc
    · exact V.lies_lt _ _ _ h3 c hc
    · exact kidsLie_lt r G2 h4 c hc
theorem kidsLie_same {w w' : World} : ∀ (es : List Ent) (G : List Nat), kidsLie w es G → SameIn G w w' → kidsLie w' es G
  | [], G, h, _ => by simp only [kidsLie] at h ⊢; exact h
  | x :: r, G, h, hs => by
    simp only [kidsLie] at h ⊢
    obtain ⟨G1, G2, rfl, h2, h3, h4⟩ := h
    exact ⟨G1, G2, rfl, h2, V.lies_same _ _ _ h3 ⟨hs.1, fun c hc => hs.2 c (by simp [hc])⟩, kidsLie_same r G2 h4 ⟨hs.1, fun c hc => hs.2 c (by simp [hc])⟩⟩
theorem kidsLie_append {w : World} : ∀ (a b : List Ent) (G H : List Nat), kidsLie w a G → kidsLie w b H → kidsLie w (a ++ b) (G ++ H)
  | [], b, G, H, h, h' => by simp only [kidsLie] at h; subst h; simpa using h'
  | x :: r, b, G, H, h, h' => by
    simp only [kidsLie] at h
    simp only [List.cons_append, kidsLie]
    obtain ⟨G1, G2, rfl, h2, h3, h4⟩ := h
    exact ⟨G1, G2 ++ H, by simp, h2, h3, kidsLie_append r b G2 H h4 h'⟩
theorem kidsLie_one {w : World} {v : V} {A : Option Addr} {c : Nat} {F : List Nat} (hc : v.kids.length ≤ c) (h : Vs.lies w v.kids A F) : kidsLie w [(v, A, c)] F := by
  simp only [kidsLie]
  exact ⟨F, [], by simp, hc, V.lies_kids.2 h, rfl⟩
theorem kidsLie_cells {w : World} {g : Nat} : ∀ (es : List Ent) (off : Nat) (G : List Nat), (∀ q, q < es.length * 5 → w.cell? ⟨g, off + q, none⟩ = (flat es)[q]?) → kidsLie w es G → Vs.cells w g off (es.map (·.1)) G
  | [], off, G, _, h => by simp only [kidsLie] at h; simpa only [List.map_nil, Vs.cells] using h
  | x :: r, off, G, hc, h => by
    simp only [kidsLie] at h
    simp only [List.map_cons, Vs.cells]
    obtain ⟨G1, G2, rfl, h2, h3, h4⟩ := h
    have e : ∀ q, q < 5 → w.cell? ⟨g, off + q, none⟩ = (x.cells)[q]? := fun q hq => by
      rw [hc q (by simp; omega)]
      have := flat_at (x :: r) 0 q (by simp) hq
      simpa using this
    refine ⟨x.2.1, x.2.2, G1, G2, rfl, h2, ⟨e 0 (by omega), e 1 (by omega), e 2 (by omega), e 3 (by omega), e 4 (by omega)⟩, h3, kidsLie_cells r (off + 5) G2 (fun q hq => ?_) h4⟩
    rw [show off + 5 + q = off + (q + 5) by omega, hc (q + 5) (by simp; omega)]
    have e2 : flat (x :: r) = x.cells ++ flat r := rfl
    rw [e2, List.getElem?_append_right (by show 5 ≤ q + 5; omega)]
    rfl

/-- A row of values of the call's own. -/
structure RowOf (w : World) (base : Nat) (o : Value) (es : List Ent) (G : List Nat) : Prop where
  own : w.ownsRow base 29 5 o es.length (flat es)
  kids : kidsLie w es G
  nodup : G.Nodup
  low : ∀ c ∈ G, base ≤ c
  apart : ∀ g, o.ownBlock = some g → g ∉ G
theorem RowOf.lt {w : World} {base : Nat} {o : Value} {es : List Ent} {G : List Nat} (h : RowOf w base o es G) : ∀ c ∈ G, c < w.heap.size := kidsLie_lt es G h.kids
theorem RowOf.below {w w' : World} {base : Nat} {o : Value} {es : List Ent} {G : List Nat} (h : RowOf w base o es G) {B : Nat} (hB : w.heap.size ≤ B) (hb : Below B w w') : RowOf w' base o es G :=
  ⟨own_below' h.own hB hb, kidsLie_same es G h.kids ⟨hb.size, fun c hc => hb.block c (Nat.lt_of_lt_of_le (h.lt c hc) hB)⟩, h.nodup, h.low, h.apart⟩
theorem RowOf.alloc {w : World} {base : Nat} {o : Value} {es : List Ent} {G : List Nat} (h : RowOf w base o es G) (ob : Obj) : RowOf (w.alloc ob) base o es G :=
  h.below (Nat.le_refl _) ((Below.refl _ w).alloc (Nat.le_refl _) ob)
/-- The row as kids of a value. -/
theorem RowOf.lies {w : World} {base : Nat} {o : Value} {es : List Ent} {G : List Nat} (h : RowOf w base o es G) : ∃ A c F, o = .slice A es.length c ∧ es.length ≤ c ∧ Vs.lies w (es.map (·.1)) A F ∧ F.Nodup ∧ (∀ x ∈ F, base ≤ x) := by
  have hown := h.own
  rcases hown.2 with ⟨rfl, h0⟩ | ⟨g, c, cur, rfl, h1, h2, h3, h4⟩
  · have he : es = [] := List.eq_nil_of_length_eq_zero h0
    subst he
    exact ⟨none, 0, [], rfl, Nat.le_refl _, .inl ⟨rfl, rfl⟩, List.nodup_nil, fun x hx => by cases hx⟩
  · refine ⟨some ⟨g, 0, none⟩, c, g :: G, rfl, by omega, .inr ⟨g, G, rfl, rfl, (hown.lt g rfl).2, soft_own hown, ?_⟩, List.nodup_cons.2 ⟨h.apart g rfl, h.nodup⟩, fun x hx => ?_⟩
    · refine kidsLie_cells es 0 G (fun q hq => ?_) h.kids
      rw [Nat.zero_add]
      exact hown.cellAt q (by omega)
    · rcases List.mem_cons.1 hx with rfl | hx
      · exact h1
      · exact h.low x hx
/-- A value appended. -/
theorem RowOf.push {w w1 w' : World} {base : Nat} {o v' : Value} {es : List Ent} {G : List Nat} (h : RowOf w base o es G) {v : V} {A : Option Addr} {c : Nat} {F : List Nat} (hc : v.kids.length ≤ c) (hl : Vs.lies w v.kids A F)
    (hnd : F.Nodup) (hF : ∀ x ∈ F, base ≤ x) (hFG : ∀ x ∈ F, x ∉ G) (hFo : ∀ g, o.ownBlock = some g → g ∉ F) (h1 : Below w.heap.size w w1)
    (hown' : w'.ownsRow base 29 5 v' (es.length + 1) (flat es ++ Ent.cells (v, A, c))) (hg : w1.grownBy w' o.ownBlock) (hv : v'.ownBlock = o.ownBlock ∨ v'.ownBlock = some w1.heap.size) :
    RowOf w' base v' (es ++ [(v, A, c)]) (G ++ F) := by
  have hlt := h.lt
  have hFl : ∀ x ∈ F, x < w.heap.size := lies_lt hl
  have same : ∀ x, x < w.heap.size → (∀ g, o.ownBlock = some g → x ≠ g) → w'.heap[x]? = w.heap[x]? := fun x hx hn => by
    rw [hg.block x (Nat.lt_of_lt_of_le hx h1.size) (fun e => hn x e.symm rfl), h1.block x hx]
  have hsz : w.heap.size ≤ w'.heap.size := Nat.le_trans h1.size hg.size
  refine ⟨?_, kidsLie_append _ _ _ _ (kidsLie_same es G h.kids ⟨hsz, fun x hx => same x (hlt x hx) (fun g hg' e => h.apart g hg' (e ▸ hx))⟩) (kidsLie_one hc (Vs.lies_same hl ⟨hsz, fun x hx => same x (hFl x hx) (fun g hg' e => hFo g hg' (e ▸ hx))⟩)), ?_, ?_, ?_⟩
  · rw [List.length_append, flat_append, flat_one]; exact hown'
  · exact List.nodup_append.2 ⟨h.nodup, hnd, fun a ha b hb e => hFG b hb (e ▸ ha)⟩
  · intro x hx
    rcases List.mem_append.1 hx with hx | hx
    · exact h.low x hx
    · exact hF x hx
  · intro g hg' hx
    have hgl : g < w.heap.size := by
      rcases List.mem_append.1 hx with hx | hx
      · exact hlt g hx
      · exact hFl g hx
    rcases hv with e | e
    · rw [e] at hg'
      rcases List.mem_append.1 hx with hx | hx
      · exact h.apart g hg' hx
      · exact hFo g hg' hx
    · rw [e] at hg'
      injection hg' with hg'
      have := h1.size
      omega
theorem RowOf.none {w : World} {base : Nat} {o : Value} (h : w.ownsRow base 29 5 o 0 []) : RowOf w base o [] [] :=
  ⟨h, rfl, List.nodup_nil, (fun _ h => by cases h), (fun _ _ h => by cases h)⟩
end Go.Proofs.Ytlfiaccpihjldaa
