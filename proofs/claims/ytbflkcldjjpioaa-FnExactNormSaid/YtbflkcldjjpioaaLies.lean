/-
  A tree whose rows lie each in a block of its own; the tree marked.
-/
import Derived.Test.YtbflkcldjjpioaaMarkT
import Derived.Test.YtbflkcldjjpioaaTree
namespace Go.Proofs.Ytbflkcldjjpioaa
open Go.RowKit
set_option linter.unusedVariables false
set_option linter.unusedSimpArgs false

/-- A block whose cells may be stored into. -/
def soft (w : World) (b : Nat) : Prop := ∀ q, w.frozen? ⟨b, q, none⟩ = false
theorem soft_same {w w' : World} {b : Nat} (h : soft w b) (hb : w'.heap[b]? = w.heap[b]?) : soft w' b := fun q => by
  have := h q
  unfold World.frozen? at this ⊢
  rw [hb]
  exact this
theorem soft_own {w : World} {base g c n size : Nat} {e : TypeId} {xs : List Value} (h : w.ownsRow base e size (.slice (some ⟨g, 0, none⟩) n c) n xs) : soft w g := fun q => h.frozenAt q

mutual
/-- The kids' rows of a value, each in a block of its own; F: the blocks. -/
def V.lies (w : World) : V → Option Addr → List Nat → Prop
  | .mk _ _ _ _ ks, A, F => (ks = [] ∧ F = []) ∨ ∃ b G, A = some ⟨b, 0, none⟩ ∧ F = b :: G ∧ b < w.heap.size ∧ soft w b ∧ Vs.cells w b 0 ks G
def Vs.cells (w : World) (b : Nat) : Nat → List V → List Nat → Prop
  | _, [], G => G = []
  | off, v :: r, G => ∃ A' cap G1 G2, G = G1 ++ G2 ∧ v.kids.length ≤ cap ∧ CellsAt w b off v A' cap ∧ V.lies w v A' G1 ∧ Vs.cells w b (off + 5) r G2
end
def Vs.lies (w : World) (l : List V) (A : Option Addr) (F : List Nat) : Prop := (l = [] ∧ F = []) ∨ ∃ b G, A = some ⟨b, 0, none⟩ ∧ F = b :: G ∧ b < w.heap.size ∧ soft w b ∧ Vs.cells w b 0 l G
theorem V.lies_kids {w : World} {v : V} {A : Option Addr} {F : List Nat} : V.lies w v A F ↔ Vs.lies w v.kids A F := by
  cases v; simp only [V.lies, Vs.lies, V.kids]

/-- What says nothing of other blocks. -/
def SameIn (F : List Nat) (w w' : World) : Prop := w.heap.size ≤ w'.heap.size ∧ ∀ b ∈ F, w'.heap[b]? = w.heap[b]?
theorem cells_keep {w w' : World} {b off : Nat} {v : V} {A : Option Addr} {c : Nat} (h : CellsAt w b off v A c) (hb : w'.heap[b]? = w.heap[b]?) : CellsAt w' b off v A c :=
  h.keep fun q _ => World.cell?_of_block hb
mutual
theorem V.lies_same {w w' : World} : ∀ (v : V) (A : Option Addr) (F : List Nat), V.lies w v A F → SameIn F w w' → V.lies w' v A F
  | .mk _ _ _ _ ks, A, F, h, hs => by
    simp only [V.lies] at h ⊢
    rcases h with h | ⟨b, G, h1, rfl, h3, h4, h5⟩
    · exact .inl h
    · have hb := hs.2 b (by simp)
      exact .inr ⟨b, G, h1, rfl, Nat.lt_of_lt_of_le h3 hs.1, soft_same h4 hb, Vs.cells_same b 0 ks G h5 hb ⟨hs.1, fun c hc => hs.2 c (by simp [hc])⟩⟩
theorem Vs.cells_same {w w' : World} (b : Nat) : ∀ (off : Nat) (l : List V) (G : List Nat), Vs.cells w b off l G → w'.heap[b]? = w.heap[b]? → SameIn G w w' → Vs.cells w' b off l G
  | _, [], G, h, _, _ => by simp only [Vs.cells] at h ⊢; exact h
  | off, v :: r, G, h, hb, hs => by
    simp only [Vs.cells] at h ⊢
    obtain ⟨A', cap, G1, G2, rfl, h2, h3, h4, h5⟩ := h
    exact ⟨A', cap, G1, G2, rfl, h2, cells_keep h3 hb, V.lies_same v A' G1 h4 ⟨hs.1, fun c hc => hs.2 c (by simp [hc])⟩, Vs.cells_same b (off + 5) r G2 h5 hb ⟨hs.1, fun c hc => hs.2 c (by simp [hc])⟩⟩
end
theorem Vs.lies_same {w w' : World} {l : List V} {A : Option Addr} {F : List Nat} (h : Vs.lies w l A F) (hs : SameIn F w w') : Vs.lies w' l A F := by
  have h1 : V.lies w (.mk 0 0 0 ⟨#[]⟩ l) A F := V.lies_kids.2 h
  exact V.lies_kids.1 (V.lies_same _ A F h1 hs)

/-- One value of a row, and what it takes to put another into its place. -/
theorem Vs.cells_at {w : World} {b : Nat} : ∀ (L : List V) (off : Nat) (G : List Nat) (j : Nat) (h : j < L.length), Vs.cells w b off L G →
    ∃ A' cap G1 Gj G2, G = G1 ++ (Gj ++ G2) ∧ (L[j]).kids.length ≤ cap ∧ CellsAt w b (off + j * 5) L[j] A' cap ∧ V.lies w L[j] A' Gj ∧
      ∀ (w' : World) (v' : V), v'.kids.length = (L[j]).kids.length → CellsAt w' b (off + j * 5) v' A' cap → V.lies w' v' A' Gj →
        (∀ q, (q < off + j * 5 ∨ off + j * 5 + 5 ≤ q) → w'.cell? ⟨b, q, none⟩ = w.cell? ⟨b, q, none⟩) → SameIn (G1 ++ G2) w w' → Vs.cells w' b off (L.set j v') G
  | v :: r, off, G, 0, _, h => by
    simp only [Vs.cells] at h
    obtain ⟨A', cap, G1, G2, rfl, h2, h3, h4, h5⟩ := h
    refine ⟨A', cap, [], G1, G2, by simp, by simpa using h2, by simpa using h3, h4, fun w' v' k1 k2 k3 k4 k5 => ?_⟩
    simp only [List.set_cons_zero, Vs.cells]
    refine ⟨A', cap, G1, G2, rfl, by rw [k1]; exact h2, by simpa using k2, k3, ?_⟩
    have key : ∀ (off' : Nat) (l : List V) (G : List Nat), off + 5 ≤ off' → (∀ c ∈ G, c ∈ G2) → Vs.cells w b off' l G → Vs.cells w' b off' l G := by
      intro off' l
      induction l generalizing off' with
      | nil => intro G _ _ h; simp only [Vs.cells] at h ⊢; exact h
      | cons a l ih =>
        intro G ho hG h
        simp only [Vs.cells] at h ⊢
        obtain ⟨A', cap, H1, H2, rfl, m2, m3, m4, m5⟩ := h
        exact ⟨A', cap, H1, H2, rfl, m2, m3.keep fun q hq => k4 _ (.inr (by omega)), V.lies_same _ _ _ m4 ⟨k5.1, fun c hc => k5.2 c (by simpa using hG c (by simp [hc]))⟩, ih (off' + 5) H2 (by omega) (fun c hc => hG c (by simp [hc])) m5⟩
    exact key (off + 5) r G2 (Nat.le_refl _) (fun c hc => hc) h5
  | v :: r, off, G, j + 1, hj, h => by
    simp only [Vs.cells] at h
    obtain ⟨A', cap, G1, G2, rfl, h2, h3, h4, h5⟩ := h
    obtain ⟨B, cap', H1, Hj, H2, rfl, m2, m3, m4, m5⟩ := Vs.cells_at r (off + 5) G2 j (by simpa using hj) h5
    have he : off + 5 + j * 5 = off + (j + 1) * 5 := by omega
    rw [he] at m3 m5
    refine ⟨B, cap', G1 ++ H1, Hj, H2, by simp, by simpa using m2, by simpa using m3, by simpa using m4, fun w' v' k1 k2 k3 k4 k5 => ?_⟩
    simp only [List.set_cons_succ, Vs.cells]
    refine ⟨A', cap, G1, H1 ++ (Hj ++ H2), by simp, h2, h3.keep fun q hq => k4 _ (.inl (by omega)), V.lies_same _ _ _ h4 ⟨k5.1, fun c hc => k5.2 c (by simp [hc])⟩, m5 w' v' (by simpa using k1) k2 k3 k4 ⟨k5.1, fun c hc => k5.2 c (by simp at hc ⊢; rcases hc with h | h <;> simp [h])⟩⟩
end Go.Proofs.Ytbflkcldjjpioaa
