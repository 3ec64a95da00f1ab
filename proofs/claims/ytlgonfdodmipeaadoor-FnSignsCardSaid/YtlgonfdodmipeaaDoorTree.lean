/-
  Values as trees, plainly; how a tree lies in memory; how an argument is read as one.
-/
import Derived.Test.YtlgonfdodmipeaaDoorKit
import Derived.Deep.Slices
import Derived.Laws.Rows
namespace Go.Proofs.YtlgonfdodmipeaaDoor
open Go.RowKit Go.ChangeShapes Go.WideShapes Go.Deep
set_option linter.unusedVariables false

theorem ret_num {k : IntKind} {a b : Int} (h : a = b) : Ending.returned (.int k a) = Ending.returned (.int k b) := by rw [h]
theorem ret_bool {a b : Bool} (h : a = b) : Ending.returned (.bool a) = Ending.returned (.bool b) := by rw [h]
/-- Block g holds just these cells, none frozen. -/
def Blk (w : World) (g : Nat) (t : TypeId) (cs : Array Value) : Prop := w.heap[g]? = some (.cells cs t (0, 0))
theorem Blk.new (w : World) (t : TypeId) (cs : Array Value) : Blk (w.alloc (.cells cs t)) w.heap.size t cs := heap_alloc_new w _
theorem Blk.lt {w : World} {g : Nat} {t : TypeId} {cs : Array Value} (h : Blk w g t cs) : g < w.heap.size := by
  rcases Nat.lt_or_ge g w.heap.size with hlt | hge
  · exact hlt
  · unfold Blk at h; rw [Array.getElem?_eq_none hge] at h; cases h
theorem Blk.alloc {w : World} {g : Nat} {t : TypeId} {cs : Array Value} (h : Blk w g t cs) (o : Obj) : Blk (w.alloc o) g t cs := (Below.heap_alloc w o g h.lt).trans h
theorem Blk.below {w w' : World} {B g : Nat} {t : TypeId} {cs : Array Value} (h : Blk w g t cs) (hb : Below B w w') (hg : g < B) : Blk w' g t cs := (hb.block g hg).trans h
theorem Blk.cell {w : World} {g : Nat} {t : TypeId} {cs : Array Value} (h : Blk w g t cs) (i : Nat) : w.cell? ⟨g, i, none⟩ = cs[i]? := cell_of_row w g i cs t (0, 0) h
theorem Blk.frozen {w : World} {g : Nat} {t : TypeId} {cs : Array Value} (h : Blk w g t cs) (i : Nat) : w.frozen? ⟨g, i, none⟩ = false := by
  unfold Blk at h
  simp [World.frozen?, h]
inductive V where
  | mk (k n e : Int) (s : ByteArray) (kids : List V)
def V.k : V → Int | .mk k _ _ _ _ => k
def V.n : V → Int | .mk _ n _ _ _ => n
def V.e : V → Int | .mk _ _ e _ _ => e
def V.s : V → ByteArray | .mk _ _ _ s _ => s
def V.kids : V → List V | .mk _ _ _ _ ks => ks
theorem V.eta (v : V) : v = .mk v.k v.n v.e v.s v.kids := by cases v; rfl

/-- The five cells of a value; its kids' slice is A, with room for cap. -/
def V.agg (v : V) (A : Option Addr) (cap : Nat) : Value := .agg #[.int .i64 v.k, .int .i64 v.n, .int .i64 v.e, .string v.s, .slice A v.kids.length cap]
def CellsAt (w : World) (b off : Nat) (v : V) (A : Option Addr) (cap : Nat) : Prop :=
  w.cell? ⟨b, off, none⟩ = some (.int .i64 v.k) ∧ w.cell? ⟨b, off + 1, none⟩ = some (.int .i64 v.n) ∧ w.cell? ⟨b, off + 2, none⟩ = some (.int .i64 v.e) ∧
  w.cell? ⟨b, off + 3, none⟩ = some (.string v.s) ∧ w.cell? ⟨b, off + 4, none⟩ = some (.slice A v.kids.length cap)

mutual
/-- The kids of a value lie at A, in blocks from lo to hi. -/
def V.at_ (w : World) (lo hi : Nat) : V → Option Addr → Prop
  | .mk _ _ _ _ ks, A => Vs.at_ w lo hi ks A
def Vs.at_ (w : World) (lo hi : Nat) : List V → Option Addr → Prop
  | [], _ => True
  | v :: r, A => (∃ b off A' cap, A = some ⟨b, off, none⟩ ∧ lo ≤ b ∧ b < hi ∧ v.kids.length ≤ cap ∧ CellsAt w b off v A' cap ∧ V.at_ w lo hi v A' ∧ Vs.at_ w lo hi r (some ⟨b, off + 5, none⟩))
end

theorem V.at_kids {w : World} {lo hi : Nat} {v : V} {A : Option Addr} : V.at_ w lo hi v A ↔ Vs.at_ w lo hi v.kids A := by
  cases v; simp [V.at_, V.kids]

mutual
theorem V.at_keep {w w' : World} {lo hi : Nat} (hk : ∀ p : Addr, lo ≤ p.block → p.block < hi → w'.cell? p = w.cell? p) : ∀ (v : V) (A : Option Addr), V.at_ w lo hi v A → V.at_ w' lo hi v A
  | .mk _ _ _ _ ks, A, h => by
    simp only [V.at_] at h ⊢
    exact Vs.at_keep hk ks A h
theorem Vs.at_keep {w w' : World} {lo hi : Nat} (hk : ∀ p : Addr, lo ≤ p.block → p.block < hi → w'.cell? p = w.cell? p) : ∀ (l : List V) (A : Option Addr), Vs.at_ w lo hi l A → Vs.at_ w' lo hi l A
  | [], A, _ => by simp only [Vs.at_]
  | v :: r, A, h => by
    simp only [Vs.at_] at h ⊢
    obtain ⟨b, off, A', cap, rfl, h1, h2, h3, ⟨c0, c1, c2, c3, c4⟩, h5, h6⟩ := h
    have k := fun j => hk ⟨b, j, none⟩ h1 h2
    exact ⟨b, off, A', cap, rfl, h1, h2, h3, ⟨(k _).trans c0, (k _).trans c1, (k _).trans c2, (k _).trans c3, (k _).trans c4⟩, V.at_keep hk v A' h5, Vs.at_keep hk r _ h6⟩
end
mutual
theorem V.at_more {w : World} {lo hi lo' hi' : Nat} (h1 : lo' ≤ lo) (h2 : hi ≤ hi') : ∀ (v : V) (A : Option Addr), V.at_ w lo hi v A → V.at_ w lo' hi' v A
  | .mk _ _ _ _ ks, A, h => by
    simp only [V.at_] at h ⊢
    exact Vs.at_more h1 h2 ks A h
theorem Vs.at_more {w : World} {lo hi lo' hi' : Nat} (h1 : lo' ≤ lo) (h2 : hi ≤ hi') : ∀ (l : List V) (A : Option Addr), Vs.at_ w lo hi l A → Vs.at_ w lo' hi' l A
  | [], A, _ => by simp only [Vs.at_]
  | v :: r, A, h => by
    simp only [Vs.at_] at h ⊢
    obtain ⟨b, off, A', cap, rfl, g1, g2, h3, h4, h5, h6⟩ := h
    exact ⟨b, off, A', cap, rfl, Nat.le_trans h1 g1, Nat.lt_of_lt_of_le g2 h2, h3, h4, V.at_more h1 h2 v A' h5, Vs.at_more h1 h2 r _ h6⟩
end
theorem Vs.at_below {w w' : World} {lo hi B : Nat} {l : List V} {A : Option Addr} (h : Vs.at_ w lo hi l A) (hb : Below B w w') (hB : hi ≤ B) : Vs.at_ w' lo hi l A :=
  Vs.at_keep (fun _ _ hp => hb.cell (Nat.lt_of_lt_of_le hp hB)) l A h
/-- Kids are where they were, behind a new block. -/
theorem Vs.at_alloc {w : World} {lo hi : Nat} {l : List V} {A : Option Addr} (h : Vs.at_ w lo hi l A) (hh : hi ≤ w.heap.size) (o : Obj) : Vs.at_ (w.alloc o) lo hi l A :=
  Vs.at_keep (fun p _ hp => World.cell?_alloc_lt _ _ _ (by omega)) _ _ h
theorem Vs.at_drew {w : World} {lo hi : Nat} {l : List V} {A : Option Addr} (h : Vs.at_ w lo hi l A) : Vs.at_ w.drew lo hi l A :=
  Vs.at_keep (w := w) (w' := w.drew) (fun p _ _ => rfl) _ _ h
theorem Vs.at_set {w : World} {lo hi : Nat} {l : List V} {A : Option Addr} {p : Addr} {u : Value} (h : Vs.at_ w lo hi l A) (hp : p.block < lo ∨ hi ≤ p.block) : Vs.at_ (w.setCell p u) lo hi l A :=
  Vs.at_keep (fun q h1 h2 => World.cell?_setCell_other w p q u (fun e => by subst e; omega)) l A h
/-- Element i of a slice of values. -/
theorem Vs.at_get {w : World} {lo hi : Nat} : ∀ {l : List V} {A : Option Addr} (i : Nat) (hi' : i < l.length), Vs.at_ w lo hi l A →
    ∃ b off A' cap, A = some ⟨b, off, none⟩ ∧ lo ≤ b ∧ b < hi ∧ (l[i]).kids.length ≤ cap ∧ CellsAt w b (off + i * 5) l[i] A' cap ∧ Vs.at_ w lo hi (l[i]).kids A'
  | v :: r, A, 0, _, h => by
    simp only [Vs.at_] at h
    obtain ⟨b, off, A', cap, rfl, h1, h2, h3, h4, h5, h6⟩ := h
    exact ⟨b, off, A', cap, rfl, h1, h2, h3, by simpa using h4, V.at_kids.1 h5⟩
  | v :: r, A, i + 1, hi', h => by
    simp only [Vs.at_] at h
    obtain ⟨b, off, A', cap, rfl, h1, h2, h3, h4, h5, h6⟩ := h
    obtain ⟨b', off', A'', cap', e, g1, g2, g3, g4, g5⟩ := Vs.at_get i (by simpa using hi') h6
    injection e with e
    injection e with e1 e2
    subst e1 e2
    refine ⟨b, off, A'', cap', rfl, g1, g2, by simpa using g3, ?_, by simpa using g5⟩
    have : off + 5 + i * 5 = off + (i + 1) * 5 := by omega
    rw [this] at g4
    simpa using g4

mutual
/-- How many values there are in a value. -/
def V.nodes : V → Nat
  | .mk _ _ _ _ ks => Vs.nodes ks + 1
def Vs.nodes : List V → Nat
  | [] => 0
  | v :: r => v.nodes + Vs.nodes r
end
mutual
/-- What the laws' own measure takes off: letters, and one for each kid. -/
def V.weight : V → Nat
  | .mk _ _ _ s ks => s.size + Vs.weight ks
def Vs.weight : List V → Nat
  | [] => 0
  | v :: r => v.weight + 1 + Vs.weight r
end
/-- A number of 64 bits. -/
def inI (x : Int) : Prop := -9223372036854775808 ≤ x ∧ x ≤ 9223372036854775807
mutual
/-- Every length is one that Go can count, every number one of 64 bits. -/
def V.fits : V → Prop
  | .mk k n e s ks => s.size ≤ 9223372036854775807 ∧ ks.length ≤ 9223372036854775807 ∧ Vs.fits ks ∧ inI k ∧ inI n ∧ inI e
def Vs.fits : List V → Prop
  | [] => True
  | v :: r => v.fits ∧ Vs.fits r
end
theorem V.nodes_eq (v : V) : v.nodes = Vs.nodes v.kids + 1 := by cases v; simp [V.nodes, V.kids]
theorem V.weight_eq (v : V) : v.weight = v.s.size + Vs.weight v.kids := by cases v; simp [V.weight, V.kids, V.s]
theorem V.fits_eq (v : V) : v.fits ↔ v.s.size ≤ 9223372036854775807 ∧ v.kids.length ≤ 9223372036854775807 ∧ Vs.fits v.kids ∧ inI v.k ∧ inI v.n ∧ inI v.e := by cases v; simp [V.fits, V.kids, V.s, V.k, V.n, V.e]
theorem Vs.fits_get : ∀ {l : List V} (i : Nat) (h : i < l.length), Vs.fits l → (l[i]).fits
  | v :: r, 0, _, h => by simp only [Vs.fits] at h; exact h.1
  | v :: r, i + 1, hi, h => by simp only [Vs.fits] at h; exact Vs.fits_get i (by simpa using hi) h.2
theorem Vs.nodes_get : ∀ {l : List V} (i : Nat) (h : i < l.length), (l[i]).nodes ≤ Vs.nodes l
  | v :: r, 0, _ => by simp only [Vs.nodes, List.getElem_cons_zero]; omega
  | v :: r, i + 1, hi => by
    have := Vs.nodes_get (l := r) i (by simpa using hi)
    simp only [Vs.nodes, List.getElem_cons_succ]; omega
theorem V.nodes_pos (v : V) : 1 ≤ v.nodes := by rw [V.nodes_eq]; omega
theorem Vs.weight_snoc (l : List V) (v : V) : Vs.weight (l ++ [v]) = Vs.weight l + v.weight + 1 := by
  induction l with
  | nil => simp [Vs.weight]
  | cons a l ih => simp only [List.cons_append, Vs.weight, ih]; omega
theorem Vs.weight_take (l : List V) : ∀ i, Vs.weight (l.take i) + Vs.weight (l.drop i) = Vs.weight l := by
  induction l with
  | nil => intro i; simp [Vs.weight]
  | cons a l ih =>
    intro i
    cases i with
    | zero => simp [Vs.weight]
    | succ i => simp only [List.take_succ_cons, List.drop_succ_cons, Vs.weight]; have := ih i; omega
theorem Vs.weight_step (l : List V) (i : Nat) (h : i < l.length) : Vs.weight (l.take (i + 1)) = Vs.weight (l.take i) + (l[i]).weight + 1 := by
  rw [List.take_succ_eq_append_getElem h, Vs.weight_snoc]
theorem Vs.len_le (l : List V) : l.length ≤ Vs.weight l := by
  induction l with
  | nil => simp
  | cons a l ih => simp only [List.length_cons, Vs.weight]; omega
theorem Vs.weight_len (l : List V) (i : Nat) : Vs.weight (l.take i) + (l.length - i) ≤ Vs.weight l := by
  have h1 := Vs.weight_take l i
  have h2 := Vs.len_le (l.drop i)
  rw [List.length_drop] at h2
  omega
theorem Vs.len_nodes (l : List V) : l.length ≤ Vs.nodes l := by
  induction l with
  | nil => simp
  | cons a l ih => simp only [List.length_cons, Vs.nodes]; have := V.nodes_pos a; omega
/-- What is left of a measure, -1 if it doesn't suffice. -/
def szR (L : Int) (W : Nat) : Int := if (W : Int) ≤ L then L - W else -1

/-- A slice of values, out of its elements. -/
theorem Vs.at_of {w : World} {lo hi b : Nat} (h1 : lo ≤ b) (h2 : b < hi) : ∀ (l : List V) (off : Nat),
    (∀ i (h : i < l.length), ∃ A' cap, (l[i]).kids.length ≤ cap ∧ CellsAt w b (off + i * 5) l[i] A' cap ∧ Vs.at_ w lo hi (l[i]).kids A') → Vs.at_ w lo hi l (some ⟨b, off, none⟩)
  | [], _, _ => by simp only [Vs.at_]
  | v :: r, off, h => by
    simp only [Vs.at_]
    obtain ⟨A', cap, k1, k2, k3⟩ := h 0 (by simp)
    refine ⟨b, off, A', cap, rfl, h1, h2, by simpa using k1, by simpa using k2, V.at_kids.2 (by simpa using k3), Vs.at_of h1 h2 r (off + 5) fun i hi => ?_⟩
    obtain ⟨A', cap, k1, k2, k3⟩ := h (i + 1) (by simpa using hi)
    refine ⟨A', cap, by simpa using k1, ?_, by simpa using k3⟩
    rw [show off + 5 + i * 5 = off + (i + 1) * 5 by omega]
    simpa using k2
/-- A value stored into five cells. -/
def put5 (w : World) (G o : Nat) (v : V) (A : Option Addr) (c : Nat) : World :=
  ((((w.setCell ⟨G, o, none⟩ (.int .i64 v.k)).setCell ⟨G, o + 1, none⟩ (.int .i64 v.n)).setCell ⟨G, o + 2, none⟩ (.int .i64 v.e)).setCell ⟨G, o + 3, none⟩ (.string v.s)).setCell ⟨G, o + 4, none⟩ (.slice A v.kids.length c)
theorem addr_ne {G q : Nat} {p : Addr} (h : p.block ≠ G ∨ p.off ≠ q) : (⟨G, q, none⟩ : Addr) ≠ p := by
  rintro rfl
  rcases h with h | h <;> exact h rfl
theorem put5_other {w : World} {G o : Nat} {v : V} {A : Option Addr} {c : Nat} {p : Addr} (h : p.block ≠ G ∨ p.off < o ∨ o + 5 ≤ p.off) : (put5 w G o v A c).cell? p = w.cell? p := by
  unfold put5
  rw [World.cell?_setCell_other _ _ _ _ (addr_ne (G := G) (q := o + 4) (by omega)), World.cell?_setCell_other _ _ _ _ (addr_ne (G := G) (q := o + 3) (by omega)), World.cell?_setCell_other _ _ _ _ (addr_ne (G := G) (q := o + 2) (by omega)), World.cell?_setCell_other _ _ _ _ (addr_ne (G := G) (q := o + 1) (by omega)), World.cell?_setCell_other _ _ _ _ (addr_ne (G := G) (q := o) (by omega))]
theorem put5_at {w : World} {G o : Nat} {v : V} {A : Option Addr} {c : Nat} {u0 u1 u2 u3 u4 : Value} (h0 : w.cell? ⟨G, o, none⟩ = some u0) (h1 : w.cell? ⟨G, o + 1, none⟩ = some u1) (h2 : w.cell? ⟨G, o + 2, none⟩ = some u2)
    (h3 : w.cell? ⟨G, o + 3, none⟩ = some u3) (h4 : w.cell? ⟨G, o + 4, none⟩ = some u4) : CellsAt (put5 w G o v A c) G o v A c := by
  have ne : ∀ {a b : Nat}, a ≠ b → (⟨G, a, none⟩ : Addr) ≠ ⟨G, b, none⟩ := fun h e => h (by injection e)
  unfold put5
  refine ⟨?_, ?_, ?_, ?_, ?_⟩
  · rw [World.cell?_setCell_other _ _ _ _ (ne (by omega)), World.cell?_setCell_other _ _ _ _ (ne (by omega)), World.cell?_setCell_other _ _ _ _ (ne (by omega)), World.cell?_setCell_other _ _ _ _ (ne (by omega))]
    exact World.cell?_setCell_same _ _ _ h0
  · rw [World.cell?_setCell_other _ _ _ _ (ne (by omega)), World.cell?_setCell_other _ _ _ _ (ne (by omega)), World.cell?_setCell_other _ _ _ _ (ne (by omega))]
    exact World.cell?_setCell_same _ _ _ ((World.cell?_setCell_other _ _ _ _ (ne (by omega))).trans h1)
  · rw [World.cell?_setCell_other _ _ _ _ (ne (by omega)), World.cell?_setCell_other _ _ _ _ (ne (by omega))]
    exact World.cell?_setCell_same _ _ _ ((World.cell?_setCell_other _ _ _ _ (ne (by omega))).trans ((World.cell?_setCell_other _ _ _ _ (ne (by omega))).trans h2))
  · rw [World.cell?_setCell_other _ _ _ _ (ne (by omega))]
    exact World.cell?_setCell_same _ _ _ ((World.cell?_setCell_other _ _ _ _ (ne (by omega))).trans ((World.cell?_setCell_other _ _ _ _ (ne (by omega))).trans ((World.cell?_setCell_other _ _ _ _ (ne (by omega))).trans h3)))
  · exact World.cell?_setCell_same _ _ _ ((World.cell?_setCell_other _ _ _ _ (ne (by omega))).trans ((World.cell?_setCell_other _ _ _ _ (ne (by omega))).trans ((World.cell?_setCell_other _ _ _ _ (ne (by omega))).trans ((World.cell?_setCell_other _ _ _ _ (ne (by omega))).trans h4))))
theorem put5_size (w : World) (G o : Nat) (v : V) (A : Option Addr) (c : Nat) : (put5 w G o v A c).heap.size = w.heap.size := by simp [put5]
theorem put5_own {w : World} {G o base n cap : Nat} {e : TypeId} {v : V} {A : Option Addr} {c : Nat} {xs : List Value} (h : w.ownsRow base e 5 (.slice (some ⟨G, 0, none⟩) n cap) n xs) : ∃ xs', (put5 w G o v A c).ownsRow base e 5 (.slice (some ⟨G, 0, none⟩) n cap) n xs' :=
  ⟨_, ((((((h.stored o _).1.stored (o + 1) _).1.stored (o + 2) _).1.stored (o + 3) _).1.stored (o + 4) _).1)⟩
theorem put5_below {a w : World} {B G o : Nat} {v : V} {A : Option Addr} {c : Nat} (h : Below B a w) (hG : B ≤ G) : Below B a (put5 w G o v A c) :=
  ((((h.setCell (p := ⟨G, o, none⟩) hG _).setCell (p := ⟨G, o + 1, none⟩) hG _).setCell (p := ⟨G, o + 2, none⟩) hG _).setCell (p := ⟨G, o + 3, none⟩) hG _).setCell (p := ⟨G, o + 4, none⟩) hG _
theorem CellsAt.keep {w w' : World} {b off : Nat} {v : V} {A : Option Addr} {c : Nat} (h : CellsAt w b off v A c) (hk : ∀ q, q < 5 → w'.cell? ⟨b, off + q, none⟩ = w.cell? ⟨b, off + q, none⟩) : CellsAt w' b off v A c :=
  ⟨(hk 0 (by omega)).trans h.1, (hk 1 (by omega)).trans h.2.1, (hk 2 (by omega)).trans h.2.2.1, (hk 3 (by omega)).trans h.2.2.2.1, (hk 4 (by omega)).trans h.2.2.2.2⟩
theorem Blk.five {w : World} {g : Nat} {t : TypeId} {v0 v1 v2 v3 v4 : Value} (h : Blk w g t #[v0, v1, v2, v3, v4]) :
    w.cell? ⟨g, 0, none⟩ = some v0 ∧ w.cell? ⟨g, 1, none⟩ = some v1 ∧ w.cell? ⟨g, 2, none⟩ = some v2 ∧ w.cell? ⟨g, 3, none⟩ = some v3 ∧ w.cell? ⟨g, 4, none⟩ = some v4 :=
  ⟨h.cell 0, h.cell 1, h.cell 2, h.cell 3, h.cell 4⟩
theorem Blk.drew {w : World} {g : Nat} {t : TypeId} {cs : Array Value} (h : Blk w g t cs) : Blk w.drew g t cs := h
mutual
theorem V.nodes_weight : ∀ v : V, v.nodes ≤ v.weight + 1
  | .mk _ _ _ _ ks => by simp only [V.nodes, V.weight]; have := Vs.nodes_weight ks; omega
theorem Vs.nodes_weight : ∀ l : List V, Vs.nodes l ≤ Vs.weight l
  | [] => by simp [Vs.nodes]
  | v :: r => by simp only [Vs.nodes, Vs.weight]; have h1 := V.nodes_weight v; have h2 := Vs.nodes_weight r; omega
end
/-- What holds of every value whose kids it holds of. -/
theorem V.all {P : V → Prop} (h : ∀ v, (∀ i (hi : i < v.kids.length), P v.kids[i]) → P v) : ∀ v, P v := by
  have key : ∀ N (v : V), v.nodes ≤ N → P v := by
    intro N
    induction N with
    | zero => intro v hv; have := V.nodes_pos v; omega
    | succ N ih =>
      intro v hv
      refine h v fun i hi => ih _ ?_
      have h1 := Vs.nodes_get i hi
      rw [V.nodes_eq] at hv
      omega
  exact fun v => key _ v (Nat.le_refl _)
end Go.Proofs.YtlgonfdodmipeaaDoor
