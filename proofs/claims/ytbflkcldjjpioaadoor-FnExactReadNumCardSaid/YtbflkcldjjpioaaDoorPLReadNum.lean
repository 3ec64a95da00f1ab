/-
  FnExactReadNum returns true for every text and every place; no conditions.
-/
import Derived.Test.YtbflkcldjjpioaaDoorPaLReadNum
import Derived.Handy
import Derived.Test.YtbflkcldjjpioaaDoorCards
import Derived.Test.YtbflkcldjjpioaaDoorTie
import Derived.Lay
import Derived.LaidOnce
import Derived.SevenTiedAt
/-
  The laws' marks in a tree: the walk of markValueS and markValue.
-/
namespace Go.Proofs.YtbflkcldjjpioaaDoor
open Go.RowKit
set_option linter.unusedVariables false
set_option linter.unusedSimpArgs false

def MarkSaid (l : List V) : Prop := ∀ (A : Option Addr) (cap k : Nat) (w : World) (F : List Nat), 0 < k → k + 4 * Vs.nodes l ≤ 10000000 → Vs.lies w l A F → F.Nodup →
    Calls Tryd.prog 54 #[.slice A l.length cap, .int .i64 k] w fun e w' => e = .returned (.int .i64 ((k + 4 * Vs.nodes l : Nat) : Int)) ∧ Vs.lies w' (Vs.mark l k) A F ∧ Touch F w w'

/-- What the loop has done behind j values. -/
def MkRel (l : List V) (b : Nat) (G : List Nat) (k : Nat) (w : World) (q i : Value) (wr : World) : Prop :=
  ∃ j : Nat, j ≤ l.length ∧ i = .int .i64 j ∧ q = .int .i64 ((k + 4 * Vs.nodes (l.take j) : Nat) : Int) ∧ b < wr.heap.size ∧ soft wr b ∧ Vs.cells wr b 0 (Vs.markTo l k j) G ∧ Touch (b :: G) w wr

theorem nodes_step (l : List V) (j : Nat) (h : j < l.length) : Vs.nodes (l.take (j + 1)) = Vs.nodes (l.take j) + (l[j]).nodes := by
  rw [List.take_succ_eq_append_getElem h]
  have : ∀ a : List V, ∀ v : V, Vs.nodes (a ++ [v]) = Vs.nodes a + v.nodes := by
    intro a v
    induction a with
    | nil => simp [Vs.nodes]
    | cons x a ih => simp only [List.cons_append, Vs.nodes, ih]; omega
  exact this _ _
theorem nodes_take_le (l : List V) (j : Nat) (h : j < l.length) : Vs.nodes (l.take j) + (l[j]).nodes ≤ Vs.nodes l := by
  have h1 := nodes_step l j h
  have : ∀ (a : List V) (i : Nat), Vs.nodes (a.take i) ≤ Vs.nodes a := by
    intro a
    induction a with
    | nil => intro i; simp
    | cons x a ih =>
      intro i
      cases i with
      | zero => simp [Vs.nodes]
      | succ i => simp only [List.take_succ_cons, Vs.nodes]; have := ih i; omega
  have h2 := this l (j + 1)
  omega

/-- The three numbers of a value, marked. -/
def mark3 (w : World) (b o : Nat) (k : Nat) : World := ((w.setCell ⟨b, o, none⟩ (.int .i64 (k : Int))).setCell ⟨b, o + 1, none⟩ (.int .i64 ((k : Int) + 1))).setCell ⟨b, o + 2, none⟩ (.int .i64 ((k : Int) + 2))
theorem mark3_size (w : World) (b o k : Nat) : (mark3 w b o k).heap.size = w.heap.size := by simp [mark3]
theorem mark3_other {w : World} {b o k : Nat} {p : Addr} (h : p.block ≠ b ∨ p.off < o ∨ o + 3 ≤ p.off) : (mark3 w b o k).cell? p = w.cell? p := by
  unfold mark3
  rw [World.cell?_setCell_other _ _ _ _ (addr_ne (G := b) (q := o + 2) (by omega)), World.cell?_setCell_other _ _ _ _ (addr_ne (G := b) (q := o + 1) (by omega)), World.cell?_setCell_other _ _ _ _ (addr_ne (G := b) (q := o) (by omega))]
theorem mark3_block {w : World} {b o k : Nat} {c : Nat} (h : c ≠ b) : (mark3 w b o k).heap[c]? = w.heap[c]? := by
  unfold mark3
  rw [Below.heap_setCell _ _ _ _ (by exact h), Below.heap_setCell _ _ _ _ (by exact h), Below.heap_setCell _ _ _ _ (by exact h)]
theorem mark3_frozen (w : World) (b o k : Nat) (p : Addr) : (mark3 w b o k).frozen? p = w.frozen? p := by simp [mark3]
theorem mark3_touch {F : List Nat} {a w : World} {b o k : Nat} (h : Touch F a w) (hb : b ∈ F) : Touch F a (mark3 w b o k) := ((h.set hb _).set hb _).set hb _
theorem mark3_at {w : World} {b o k : Nat} {v : V} {A : Option Addr} {c : Nat} (h : CellsAt w b o v A c) :
    (mark3 w b o k).cell? ⟨b, o, none⟩ = some (.int .i64 (k : Int)) ∧ (mark3 w b o k).cell? ⟨b, o + 1, none⟩ = some (.int .i64 ((k : Int) + 1)) ∧ (mark3 w b o k).cell? ⟨b, o + 2, none⟩ = some (.int .i64 ((k : Int) + 2)) := by
  obtain ⟨h0, h1, h2, h3, h4⟩ := h
  have ne : ∀ {a c : Nat}, a ≠ c → (⟨b, a, none⟩ : Addr) ≠ ⟨b, c, none⟩ := fun h e => h (by injection e)
  unfold mark3
  refine ⟨?_, ?_, ?_⟩
  · rw [World.cell?_setCell_other _ _ _ _ (ne (by omega)), World.cell?_setCell_other _ _ _ _ (ne (by omega))]
    exact World.cell?_setCell_same _ _ _ h0
  · rw [World.cell?_setCell_other _ _ _ _ (ne (by omega))]
    exact World.cell?_setCell_same _ _ _ ((World.cell?_setCell_other _ _ _ _ (ne (by omega))).trans h1)
  · exact World.cell?_setCell_same _ _ _ ((World.cell?_setCell_other _ _ _ _ (ne (by omega))).trans ((World.cell?_setCell_other _ _ _ _ (ne (by omega))).trans h2))

/-- The whole round, said of worlds alone. -/
theorem mk_next {l : List V} {b k j cap : Nat} {G G1 Gj G2 : List Nat} {A' : Option Addr} {w wr w1 w6 : World} (hj : j < l.length) (hG : G = G1 ++ (Gj ++ G2)) (hnd : (b :: G).Nodup) (hbl : b < wr.heap.size) (hs : soft wr b)
    (hG0 : ∀ c ∈ G, c < wr.heap.size)
    (hc : CellsAt wr b (j * 5) l[j] A' cap) (ht : Touch (b :: G) w wr)
    (hcont : ∀ w' : World, CellsAt w' b (j * 5) (l[j].mark (k + 4 * Vs.nodes (l.take j))) A' cap → Vs.lies w' (Vs.mark (l[j]).kids (k + 4 * Vs.nodes (l.take j) + 4)) A' Gj →
        (∀ q, (q < j * 5 ∨ j * 5 + 5 ≤ q) → w'.cell? ⟨b, q, none⟩ = wr.cell? ⟨b, q, none⟩) → SameIn (G1 ++ G2) wr w' → Vs.cells w' b 0 (Vs.markTo l k (j + 1)) G)
    (hb1 : Below (mark3 wr b (j * 5) (k + 4 * Vs.nodes (l.take j))).heap.size (mark3 wr b (j * 5) (k + 4 * Vs.nodes (l.take j))) w1)
    (h6 : Vs.lies w6 (Vs.mark (l[j]).kids (k + 4 * Vs.nodes (l.take j) + 4)) A' Gj) (t6 : Touch Gj (w1.setCell ⟨b, j * 5 + 3, none⟩ (.string (mtext (k + 4 * Vs.nodes (l.take j) + 3)))) w6) {q i : Value} (hi : i = .int .i64 ((j : Int) + 1))
    (hq : q = .int .i64 ((k + 4 * Vs.nodes (l.take j) + 4 + 4 * Vs.nodes (l[j]).kids : Nat) : Int)) : MkRel l b G k w q i w6 := by
  subst hi hq
  have hnb : b ∉ G := (List.nodup_cons.1 hnd).1
  have hnG := (List.nodup_cons.1 hnd).2
  have hsz : (mark3 wr b (j * 5) (k + 4 * Vs.nodes (l.take j))).heap.size = wr.heap.size := mark3_size _ _ _ _
  have hw1 : wr.heap.size ≤ w1.heap.size := by rw [← hsz]; exact hb1.size
  have hw6 : w1.heap.size ≤ w6.heap.size := by have := t6.size; simpa using this
  have hbj : b ∉ Gj := fun h => hnb (by rw [hG]; simp [h])
  -- block b of w6
  have hb6 : w6.heap[b]? = (w1.setCell ⟨b, j * 5 + 3, none⟩ (.string (mtext (k + 4 * Vs.nodes (l.take j) + 3)))).heap[b]? := t6.block b (by simp; omega) hbj
  have hb1' : w1.heap[b]? = (mark3 wr b (j * 5) (k + 4 * Vs.nodes (l.take j))).heap[b]? := hb1.block b (by rw [hsz]; exact hbl)
  have cell6 : ∀ o, w6.cell? ⟨b, o, none⟩ = (w1.setCell ⟨b, j * 5 + 3, none⟩ (.string (mtext (k + 4 * Vs.nodes (l.take j) + 3)))).cell? ⟨b, o, none⟩ := fun o => World.cell?_of_block hb6
  have cell1 : ∀ o, w1.cell? ⟨b, o, none⟩ = (mark3 wr b (j * 5) (k + 4 * Vs.nodes (l.take j))).cell? ⟨b, o, none⟩ := fun o => World.cell?_of_block hb1'
  have ne : ∀ {a c : Nat}, a ≠ c → (⟨b, a, none⟩ : Addr) ≠ ⟨b, c, none⟩ := fun h e => h (by injection e)
  obtain ⟨m0, m1, m2⟩ := mark3_at (k := k + 4 * Vs.nodes (l.take j)) hc
  have hcell3 : w1.cell? ⟨b, j * 5 + 3, none⟩ = some (.string l[j].s) := by rw [cell1, mark3_other (.inr (.inr (Nat.le_refl _)))]; exact hc.2.2.2.1
  have fin : Vs.cells w6 b 0 (Vs.markTo l k (j + 1)) G := by
    refine hcont w6 ⟨?_, ?_, ?_, ?_, ?_⟩ h6 ?_ ⟨by omega, ?_⟩
    · rw [cell6, World.cell?_setCell_other _ _ _ _ (ne (by omega)), cell1, m0, V.mark_k]
    · rw [cell6, World.cell?_setCell_other _ _ _ _ (ne (by omega)), cell1, m1, V.mark_n]; rfl
    · rw [cell6, World.cell?_setCell_other _ _ _ _ (ne (by omega)), cell1, m2, V.mark_e]; rfl
    · rw [cell6, V.mark_s]; exact World.cell?_setCell_same _ _ _ hcell3
    · rw [cell6, World.cell?_setCell_other _ _ _ _ (ne (by omega)), cell1, mark3_other (.inr (.inr (by show j * 5 + 3 ≤ j * 5 + 4; omega))), V.mark_kids, Vs.mark_len]; exact hc.2.2.2.2
    · intro o ho
      rw [cell6, World.cell?_setCell_other _ _ _ _ (ne (by omega)), cell1, mark3_other (by rcases ho with ho | ho; exact .inr (.inl ho); exact .inr (.inr (by show j * 5 + 3 ≤ o; omega)))]
    · intro c hcG
      have hcg : c ∈ G := by rw [hG]; simp at hcG ⊢; rcases hcG with h | h <;> simp [h]
      have hcb : c ≠ b := fun e => hnb (e ▸ hcg)
      have hcl := hG0 c hcg
      have hcj : c ∉ Gj := fun h => by
        rw [hG] at hnG
        rcases List.mem_append.1 hcG with h1 | h1
        · exact (List.nodup_append.1 hnG).2.2 c h1 c (List.mem_append.2 (.inl h)) rfl
        · exact (List.nodup_append.1 (List.nodup_append.1 hnG).2.1).2.2 c h c h1 rfl
      rw [t6.block c (by simp; omega) hcj, Below.heap_setCell _ _ _ _ (by exact hcb), hb1.block c (by rw [hsz]; exact hcl), mark3_block hcb]
  refine ⟨j + 1, by omega, by go_num, ?_, by omega, ?_, fin, ?_⟩
  · rw [nodes_step l j hj, V.nodes_eq]
    congr 1
    omega
  · intro o
    have h1 := World.frozen?_of_block (a := ⟨b, o, none⟩) hb6
    rw [h1, World.frozen?_setCell]
    have h2 := World.frozen?_of_block (a := ⟨b, o, none⟩) hb1'
    rw [h2, mark3_frozen]
    exact hs o
  · have h1 := mark3_touch (o := j * 5) (k := k + 4 * Vs.nodes (l.take j)) ht (List.mem_cons_self (a := b) (l := G))
    have h2 := h1.trans (Touch.of_below hb1)
    have h3 := h2.set (p := ⟨b, j * 5 + 3, none⟩) (List.mem_cons_self (a := b) (l := G)) (.string (mtext (k + 4 * Vs.nodes (l.take j) + 3)))
    exact h3.trans (t6.more fun c h => by rw [hG]; simp [h])

mutual
theorem V.lies_lt {w : World} : ∀ (v : V) (A : Option Addr) (F : List Nat), V.lies w v A F → ∀ c ∈ F, c < w.heap.size
  | .mk _ _ _ _ ks, A, F, h, c, hc => by
    simp only [V.lies] at h
    rcases h with ⟨_, rfl⟩ | ⟨b, G, h1, rfl, h3, h4, h5⟩
    · cases hc
    · rcases List.mem_cons.1 hc with rfl | hc
      · exact h3
      · exact Vs.cells_lt b 0 ks G h5 c hc
theorem Vs.cells_lt {w : World} (b : Nat) : ∀ (off : Nat) (l : List V) (G : List Nat), Vs.cells w b off l G → ∀ c ∈ G, c < w.heap.size
  | _, [], G, h, c, hc => by simp only [Vs.cells] at h; subst h; cases hc
  | off, v :: r, G, h, c, hc => by
    simp only [Vs.cells] at h
    obtain ⟨A', cap, G1, G2, rfl, h2, h3, h4, h5⟩ := h
    rcases List.mem_append.1 hc with hc | hc
    · exact V.lies_lt v A' G1 h4 c hc
    · exact Vs.cells_lt b (off + 5) r G2 h5 c hc
end

set_option maxHeartbeats 2000000 in
theorem mark_step (l : List V) (hk : ∀ i (h : i < l.length), MarkSaid (l[i]).kids) : MarkSaid l := by
  intro A cap k w F hk0 hkn hl hnd
  have hlen := Vs.len_nodes l
  have HC := Lib.hid hk
  clear hk
  rcases hl with ⟨rfl, rfl⟩ | ⟨b, G, rfl, rfl, hbl, hsf, hcs⟩
  · go_enter Tryd.func54, Tryd.ntmps54
    go_wp2_with fail
    go_rounds 1
    go_ret
    exact ⟨rfl, .inl ⟨rfl, rfl⟩, Touch.refl _ _⟩
  · have HCS := Lib.hid (show Vs.cells w b 0 (Vs.markTo l k 0) G by rw [Vs.markTo_none]; exact hcs)
    have HND := Lib.hid hnd
    have HSF := Lib.hid hsf
    clear hcs hnd hsf
    go_enter Tryd.func54, Tryd.ntmps54
    go_wp2_with fail
    go_loopw [1, 5] (fun q i wr => MkRel l b G k w q i wr) (fun _ i _ => l.length - (intOf i).toNat)
    case atStart => exact ⟨0, Nat.zero_le _, rfl, by simp [Vs.nodes], hbl, HSF.out, HCS.out, Touch.refl _ _⟩
    case round =>
      obtain ⟨j, hj, rfl, rfl, hb1, hs1, hc1, ht1⟩ := hrel
      by_cases hlt : j < l.length
      · have hnt := nodes_take_le l j hlt
        rw [V.nodes_eq] at hnt
        have HB0 := Lib.hid (Vs.cells_lt b 0 _ G hc1)
        obtain ⟨A', cap', G1, Gj, G2, hG, hc, hlj, hcont⟩ := mark_round hlt hc1
        have HCELL := Lib.hid hc
        have HNX := Lib.hid (fun w1 w6 q i => mk_next (w1 := w1) (w6 := w6) (q := q) (i := i) hlt hG HND.out hb1 hs1 HB0.out hc ht1 hcont)
        have hGj : ∀ c ∈ Gj, c ∈ G := fun c h => by rw [hG]; simp [h]
        have hnj : Gj.Nodup := by
          have h1 := (List.nodup_cons.1 HND.out).2
          rw [hG] at h1
          exact (List.nodup_append.1 (List.nodup_append.1 h1).2.1).1
        have hbj : b ∉ Gj := fun h => (List.nodup_cons.1 HND.out).1 (hGj b h)
        have HGJ := Lib.hid hGj
        have HNJ := Lib.hid hnj
        have HBJ := Lib.hid hbj
        have HLJ := Lib.hid hlj
        obtain ⟨m, hm⟩ : ∃ m, k + 4 * Vs.nodes (l.take j) = m := ⟨_, rfl⟩
        rw [hm] at HNX ⊢
        have hmb : m + 4 + 4 * Vs.nodes (l[j]).kids ≤ 10000000 := by omega
        obtain ⟨c0, c1, c2, c3, c4⟩ := hc
        have k0 := hs1 (j * 5)
        have k1 := hs1 (j * 5 + 1)
        have k2 := hs1 (j * 5 + 2)
        have hm0 : 0 < m := by omega
        have HM := Lib.hid hm
        have HS1 := Lib.hid hs1
        clear hG hlj hcont hGj hnj hbj hm hs1 hc1 ht1
        go_wp2_with fail
        refine (markText (m + 3) _ (by omega) (by omega)).mono ?_
        rintro e w1 ⟨rfl, hbt⟩
        have hbt' : Below (mark3 wr b (j * 5) m).heap.size (mark3 wr b (j * 5) m) w1 := hbt
        have hsz3 := mark3_size wr b (j * 5) m
        have hblk : ∀ c, c < wr.heap.size → w1.heap[c]? = (mark3 wr b (j * 5) m).heap[c]? := fun c h => hbt'.block c (by rw [hsz3]; exact h)
        have hw1 : wr.heap.size ≤ w1.heap.size := by have := hbt'.size; omega
        have d3 : w1.cell? ⟨b, j * 5 + 3, none⟩ = some (.string l[j].s) := by
          rw [World.cell?_of_block (a := ⟨b, j * 5 + 3, none⟩) (hblk b hb1), mark3_other (.inr (.inr (Nat.le_refl _)))]; exact c3
        have d4 : w1.cell? ⟨b, j * 5 + 4, none⟩ = some (.slice A' (l[j]).kids.length cap') := by
          rw [World.cell?_of_block (a := ⟨b, j * 5 + 4, none⟩) (hblk b hb1), mark3_other (.inr (.inr (by show j * 5 + 3 ≤ j * 5 + 4; omega)))]; exact c4
        have e3 : w1.frozen? ⟨b, j * 5 + 3, none⟩ = false := by
          rw [World.frozen?_of_block (a := ⟨b, j * 5 + 3, none⟩) (hblk b hb1), mark3_frozen]; exact HS1.out _
        have HBT := Lib.hid hbt'
        have HBLK := Lib.hid hblk
        clear c0 c1 c2 c3 c4 k0 k1 k2 hbt hbt' hblk hsz3
        go_wp2_with fail
        have hl5 : Vs.lies (w1.setCell ⟨b, j * 5 + 3, none⟩ (.string (mtext (m + 3)))) (l[j]).kids A' Gj := by
          refine Vs.lies_same HLJ.out ⟨by simpa using hw1, fun c hc => ?_⟩
          have hcb : c ≠ b := fun e => HBJ.out (e ▸ hc)
          rw [Below.heap_setCell _ _ _ _ (by exact hcb), HBLK.out c (HB0.out c (HGJ.out c hc)), mark3_block hcb]
        refine (HC.out j hlt A' cap' (m + 4) _ Gj (by omega) (by omega) hl5 HNJ.out).mono ?_
        rintro e w6 ⟨rfl, hl6, ht6⟩
        have HL6 := Lib.hid hl6
        have HT6 := Lib.hid ht6
        clear hl5 hl6 ht6 d3 d4 e3
        go_wp2_with fail
        go_roundw
        case rel => exact HNX.out w1 w6 _ _ HBT.out HL6.out HT6.out rfl (by go_num)
        case measure => simp [intOf]; omega
      · obtain rfl : j = l.length := by omega
        rw [List.take_length, Vs.markTo_all] at *
        have HT := Lib.hid ht1
        have HCC := Lib.hid hc1
        have HSS := Lib.hid hs1
        clear ht1 hc1 hs1
        go_wp2_with fail
        go_ret
        exact ⟨rfl, .inr ⟨b, G, rfl, rfl, hb1, HSS.out, HCC.out⟩, HT.out⟩
end Go.Proofs.YtbflkcldjjpioaaDoor

/-
  The laws' marks in a tree: they are all put, and whether they are still held.
-/
namespace Go.Proofs.YtbflkcldjjpioaaDoor
open Go.RowKit
set_option linter.unusedVariables false
set_option linter.unusedSimpArgs false

theorem markS_any (l : List V) : MarkSaid l := by
  have h : ∀ v : V, MarkSaid v.kids := V.all (fun v hk => mark_step v.kids hk)
  exact h (.mk 0 0 0 ⟨#[]⟩ l)

set_option maxHeartbeats 1000000 in
theorem markValue_any (v : V) (A : Option Addr) (cap k : Nat) (w : World) (F : List Nat) (hk0 : 0 < k) (hkn : k + 4 * Vs.nodes v.kids ≤ 10000000) (hl : Vs.lies w v.kids A F) (hnd : F.Nodup) :
    Calls Tryd.prog 24 #[v.agg A cap, .int .i64 k] w fun e w' => e = .returned (.int .i64 ((k + 4 * Vs.nodes v.kids : Nat) : Int)) ∧ Vs.lies w' (Vs.mark v.kids k) A F ∧ Touch F w w' := by
  have hlt : ∀ c ∈ F, c < w.heap.size := by
    have h1 : V.lies w (.mk 0 0 0 ⟨#[]⟩ v.kids) A F := V.lies_kids.2 hl
    exact V.lies_lt _ A F h1
  have hA : ∀ o, Vs.lies (w.alloc o) v.kids A F := fun o => Vs.lies_same hl ⟨by simp, fun c hc => Below.heap_alloc w o c (hlt c hc)⟩
  have HA := Lib.hid hA
  have HND := Lib.hid hnd
  clear hA hl hnd hlt
  unfold V.agg
  go_enter Tryd.func24, Tryd.ntmps24
  go_wp2_with fail
  refine (markS_any v.kids A _ k _ F hk0 hkn (HA.out _) HND.out).mono ?_
  rintro e w1 ⟨rfl, hl1, ht1⟩
  have HL := Lib.hid hl1
  have HT := Lib.hid ht1
  clear hl1 ht1
  go_wp2_with fail
  go_ret
  exact ⟨rfl, HL.out, (Touch.of_below ((Below.refl _ w).alloc (Nat.le_refl _) _)).trans HT.out⟩

theorem Vs.mark_get (l : List V) (k j : Nat) (h : j < l.length) : (Vs.mark l k)[j]? = some (l[j].mark (k + 4 * Vs.nodes (l.take j))) := by
  have h1 : Vs.mark l k = Vs.markTo l k l.length := (Vs.markTo_all l k).symm
  have h2 : (l.take (j + 1)) ++ l.drop (j + 1) = l := List.take_append_drop _ _
  have h3 : ∀ (a b : List V) (k : Nat), Vs.mark (a ++ b) k = Vs.mark a k ++ Vs.mark b (k + 4 * Vs.nodes a) := by
    intro a
    induction a with
    | nil => intro b k; simp [Vs.mark, Vs.nodes]
    | cons x a ih =>
      intro b k
      simp only [List.cons_append, Vs.mark, ih, Vs.nodes]
      rw [show k + 4 * x.nodes + 4 * Vs.nodes a = k + 4 * (x.nodes + Vs.nodes a) by omega]
  have h4 : Vs.mark l k = Vs.mark (l.take (j + 1)) k ++ Vs.mark (l.drop (j + 1)) (k + 4 * Vs.nodes (l.take (j + 1))) := by rw [← h3, h2]
  rw [h4, List.take_succ_eq_append_getElem h, Vs.mark_snoc]
  have hl : (Vs.mark (l.take j) k).length = j := by rw [Vs.mark_len, List.length_take]; omega
  rw [List.getElem?_append_left (by simp [hl]), List.getElem?_append_right (by omega), hl, Nat.sub_self]
  rfl

def HeldSaid (l : List V) : Prop := ∀ (A : Option Addr) (cap k : Nat) (w : World) (F : List Nat), 0 < k → k + 4 * Vs.nodes l ≤ 10000000 → Vs.lies w (Vs.mark l k) A F →
    Calls Tryd.prog 55 #[.slice A l.length cap, .int .i64 k] w fun e w' => e = .returned (.int .i64 ((k + 4 * Vs.nodes l : Nat) : Int)) ∧ Below w.heap.size w w'

theorem lies_below {w w' : World} {l : List V} {A : Option Addr} {F : List Nat} (h : Vs.lies w l A F) {B : Nat} (hb : Below B w w') (hB : ∀ c ∈ F, c < B) : Vs.lies w' l A F :=
  Vs.lies_same h ⟨hb.size, fun c hc => hb.block c (hB c hc)⟩
theorem lies_lt {w : World} {l : List V} {A : Option Addr} {F : List Nat} (h : Vs.lies w l A F) : ∀ c ∈ F, c < w.heap.size := by
  have h1 : V.lies w (.mk 0 0 0 ⟨#[]⟩ l) A F := V.lies_kids.2 h
  exact V.lies_lt _ A F h1

/-- One marked value of a row. -/
theorem held_cell {w : World} {l : List V} {k j b : Nat} {G : List Nat} (h : Vs.cells w b 0 (Vs.mark l k) G) (hj : j < l.length) :
    ∃ (A' : Option Addr) (cap : Nat) (Gj : List Nat), w.cell? ⟨b, j * 5, none⟩ = some (.int .i64 ((k + 4 * Vs.nodes (l.take j) : Nat) : Int)) ∧ w.cell? ⟨b, j * 5 + 1, none⟩ = some (.int .i64 (((k + 4 * Vs.nodes (l.take j) : Nat) : Int) + 1)) ∧
      w.cell? ⟨b, j * 5 + 2, none⟩ = some (.int .i64 (((k + 4 * Vs.nodes (l.take j) : Nat) : Int) + 2)) ∧ w.cell? ⟨b, j * 5 + 3, none⟩ = some (.string (mtext (k + 4 * Vs.nodes (l.take j) + 3))) ∧
      w.cell? ⟨b, j * 5 + 4, none⟩ = some (.slice A' (l[j]).kids.length cap) ∧ Vs.lies w (Vs.mark (l[j]).kids (k + 4 * Vs.nodes (l.take j) + 4)) A' Gj := by
  have hl : j < (Vs.mark l k).length := by rw [Vs.mark_len]; exact hj
  have hg : (Vs.mark l k)[j] = l[j].mark (k + 4 * Vs.nodes (l.take j)) := by
    have := Vs.mark_get l k j hj
    rw [List.getElem?_eq_getElem hl] at this
    exact Option.some.inj this
  obtain ⟨A', cap, G1, Gj, G2, h1, h2, h3, h4, _⟩ := Vs.cells_at (Vs.mark l k) 0 G j hl h
  rw [hg, Nat.zero_add] at h3
  rw [hg] at h4
  obtain ⟨c0, c1, c2, c3, c4⟩ := h3
  rw [V.mark_k] at c0
  rw [V.mark_n] at c1
  rw [V.mark_e] at c2
  rw [V.mark_s] at c3
  rw [V.mark_kids, Vs.mark_len] at c4
  have h5 := V.lies_kids.1 h4
  rw [V.mark_kids] at h5
  exact ⟨A', cap, Gj, c0, c1, c2, c3, c4, h5⟩

set_option maxHeartbeats 2000000 in
theorem held_step (l : List V) (hk : ∀ i (h : i < l.length), HeldSaid (l[i]).kids) : HeldSaid l := by
  intro A cap k w F hk0 hkn hl
  have hlen := Vs.len_nodes l
  have HC := Lib.hid hk
  have HLT := Lib.hid (lies_lt hl)
  clear hk
  rcases hl with ⟨h0, rfl⟩ | ⟨b, G, rfl, rfl, hbl, hsf, hcs⟩
  · obtain rfl : l = [] := by
      have h1 := congrArg List.length h0
      rw [Vs.mark_len] at h1
      simpa using h1
    go_enter Tryd.func55, Tryd.ntmps55
    go_wp2_with fail
    go_rounds 1
    go_ret
    exact ⟨rfl, Below.refl _ _⟩
  · have HCS := Lib.hid (show Vs.lies w (Vs.mark l k) (some ⟨b, 0, none⟩) (b :: G) from .inr ⟨b, G, rfl, rfl, hbl, hsf, hcs⟩)
    clear hcs hsf
    go_enter Tryd.func55, Tryd.ntmps55
    go_wp2_with fail
    go_loopw [1, 5] (fun q i wr => ∃ j : Nat, j ≤ l.length ∧ i = .int .i64 j ∧ q = .int .i64 ((k + 4 * Vs.nodes (l.take j) : Nat) : Int) ∧ Below w.heap.size w wr) (fun _ i _ => l.length - (intOf i).toNat)
    case atStart => exact ⟨0, Nat.zero_le _, rfl, by simp [Vs.nodes], Below.refl _ _⟩
    case round =>
      obtain ⟨j, hj, rfl, rfl, hb⟩ := hrel
      by_cases hlt : j < l.length
      · have hnt := nodes_take_le l j hlt
        rw [V.nodes_eq] at hnt
        have hst := nodes_step l j hlt
        rw [V.nodes_eq] at hst
        have hlr := lies_below HCS.out hb HLT.out
        have hcr : Vs.cells wr b 0 (Vs.mark l k) G := by
          rcases hlr with ⟨h0, _⟩ | ⟨b', G', e1, e2, _, _, h5⟩
          · have := congrArg List.length h0
            rw [Vs.mark_len, List.length_nil] at this
            omega
          · injection e1 with e1
            injection e1 with e1
            subst e1
            injection e2 with _ e2
            subst e2
            exact h5
        obtain ⟨A', cap', Gj, c0, c1, c2, c3, c4, c5⟩ := held_cell hcr hlt
        have HST := Lib.hid hst
        clear hcr hlr hst
        obtain ⟨m, hm⟩ : ∃ m, k + 4 * Vs.nodes (l.take j) = m := ⟨_, rfl⟩
        rw [hm] at c0 c1 c2 c3 c5 ⊢
        have hmb : m + 4 + 4 * Vs.nodes (l[j]).kids ≤ 10000000 := by omega
        have hm0 : 0 < m := by omega
        have HM := Lib.hid hm
        have HC5 := Lib.hid c5
        have hbw := hb.size
        have hcell : ∀ w', Below wr.heap.size wr w' → w'.cell? ⟨b, j * 5 + 3, none⟩ = some (.string (mtext (m + 3))) ∧ w'.cell? ⟨b, j * 5 + 4, none⟩ = some (.slice A' (l[j]).kids.length cap') := fun w' hb' =>
          ⟨(hb'.cell (p := ⟨b, j * 5 + 3, none⟩) (by show b < _; omega)).trans c3, (hb'.cell (p := ⟨b, j * 5 + 4, none⟩) (by show b < _; omega)).trans c4⟩
        have HCL := Lib.hid hcell
        clear hm c5 hcell
        go_wp2_with fail
        go_region_held3 (fun w' => w'.cell? ⟨b, j * 5 + 3, none⟩ = some (.string (mtext (m + 3)))) (first | exact (HCL.out _ hbt2).1 | exact (HCL.out _ ((Below.refl _ _).drew)).1 | exact (HCL.out _ (Below.refl _ _)).1)
          (first | (go_at_call 86; refine (markText (m + 3) wr.drew (by omega) (by omega)).mono ?_; rintro e w1 ⟨rfl, hbt⟩; have hbt2 : Below wr.heap.size wr w1 := (Below.refl _ _).drew.trans hbt))
        clear c0 c1 c2 c3 c4
        have d4 := (HCL.out _ hbt2).2
        have hbw1 := hb.trans (hbt2.mono hb.size)
        go_wp2_with fail
        refine (HC.out j hlt A' cap' (m + 4) w1 Gj (by omega) (by omega) (lies_below HC5.out hbt2 (lies_lt HC5.out))).mono ?_
        rintro e w6 ⟨rfl, hb6⟩
        have hbw6 := hbw1.trans (hb6.mono hbw1.size)
        clear d4
        go_wp2_with fail
        go_roundw
        case rel => exact ⟨j + 1, by omega, by go_num, by rw [HST.out, ← HM.out]; go_num, hbw6⟩
        case measure => simp [intOf]; omega
      · obtain rfl : j = l.length := by omega
        rw [List.take_length] at *
        go_wp2_with fail
        go_ret
        exact ⟨rfl, hb⟩
theorem heldS_any (l : List V) : HeldSaid l := by
  have h : ∀ v : V, HeldSaid v.kids := V.all (fun v hk => held_step v.kids hk)
  exact h (.mk 0 0 0 ⟨#[]⟩ l)
end Go.Proofs.YtbflkcldjjpioaaDoor

/-
  heldValue; what lies apart from a change.
-/
namespace Go.Proofs.YtbflkcldjjpioaaDoor
open Go.RowKit
set_option linter.unusedVariables false
set_option linter.unusedSimpArgs false

set_option maxHeartbeats 1000000 in
theorem heldValue_any (v : V) (A : Option Addr) (cap k : Nat) (w : World) (F : List Nat) (l : List V) (hll : l.length = v.kids.length) (hk0 : 0 < k) (hkn : k + 4 * Vs.nodes l ≤ 10000000) (hl : Vs.lies w (Vs.mark l k) A F) :
    Calls Tryd.prog 25 #[v.agg A cap, .int .i64 k] w fun e w' => e = .returned (.int .i64 ((k + 4 * Vs.nodes l : Nat) : Int)) ∧ Below w.heap.size w w' := by
  have hA : ∀ o, Vs.lies (w.alloc o) (Vs.mark l k) A F := fun o => Vs.lies_same hl ⟨by simp, fun c hc => Below.heap_alloc w o c (lies_lt hl c hc)⟩
  have HA := Lib.hid hA
  have HLL := Lib.hid hll
  have HS := Lib.hid (heldS_any l A)
  clear hA hl hll
  unfold V.agg
  go_enter Tryd.func25, Tryd.ntmps25
  go_wp2_with fail
  rw [← HLL.out]
  refine (HS.out _ k _ F hk0 hkn (HA.out _)).mono ?_
  rintro e w1 ⟨rfl, hb1⟩
  have hb : Below w.heap.size w w1 := ((Below.refl _ w).alloc (Nat.le_refl _) _).trans (hb1.mono (by simp))
  clear hb1
  go_wp2_with fail
  go_ret
  exact ⟨rfl, hb⟩
theorem lies_touch {w w' : World} {l : List V} {A : Option Addr} {F F' : List Nat} (h : Vs.lies w l A F) (ht : Touch F' w w') (hF : ∀ c ∈ F, c ∉ F') : Vs.lies w' l A F :=
  Vs.lies_same h ⟨ht.size, fun c hc => ht.block c (lies_lt h c hc) (hF c hc)⟩
theorem Blk.touch {w w' : World} {g : Nat} {t : TypeId} {cs : Array Value} {F : List Nat} (h : Blk w g t cs) (ht : Touch F w w') (hF : g ∉ F) : Blk w' g t cs := (ht.block g h.lt hF).trans h
end Go.Proofs.YtbflkcldjjpioaaDoor

/-
  FnExactReadNum returns true for every text and every place; no conditions.
-/
namespace Go.Proofs.YtbflkcldjjpioaaDoor.fnExactReadNum
open Go.ChangeShapes Go.WideShapes Go.ChangeAt Go.RowKit
open Go.ChangeMaps (open_string shut_string)
set_option linter.unusedVariables false

theorem normD_kids (n e : Int) : (normD n e).kids = [] := by
  unfold normD normR
  split
  · split
    · rfl
    · unfold normV
      split
      · rfl
      · split <;> rfl
  · rfl
theorem rd_kids (s : ByteArray) (i : Int) : (rdV (rnP s i)).kids = [] := by
  have h1 : ∀ n e, ∀ v, normR n e = some v → v.kids = [] := by
    intro n e v h
    have := normD_kids n e
    unfold normD at this
    rw [h] at this
    exact this
  unfold rnP
  split
  · unfold rnO
    split
    · rfl
    · split
      · rfl
      · unfold numG
        split
        · rfl
        · cases hh : normR (sgnV (decide (i.toNat < fAt s i.toNat)) (dval (numT (dgs s (fAt s i.toNat) (wholeAt s (fAt s i.toNat)) (fracN s (wholeAt s (fAt s i.toNat))))))) (powE s (wholeAt s (fAt s i.toNat)) (fracN s (wholeAt s (fAt s i.toNat))) (expN s (fracN s (wholeAt s (fAt s i.toNat)))) + (((dropZ (dgs s (fAt s i.toNat) (wholeAt s (fAt s i.toNat)) (fracN s (wholeAt s (fAt s i.toNat))))).length - (numT (dgs s (fAt s i.toNat) (wholeAt s (fAt s i.toNat)) (fracN s (wholeAt s (fAt s i.toNat))))).length : Nat) : Int)) with
          | none => rfl
          | some v => exact h1 _ _ v hh
  · rfl
set_option maxHeartbeats 8000000 in
theorem walk (a0 : ByteArray) (w0 : a0.size ≤ maxLen) (a1 : Int) (w1 : (Lit.int .i64 a1).wf = true) (w : World) (hP : Pow10 w) (hE : Errs w) (hT : Tabs w) :
    Calls Tryd.prog 8 #[.string a0, .int .i64 a1] w fun e w' => e = .returned (.bool true) ∧ Below w.heap.size w w' := by
  unfold maxLen at w0
  by_cases hbig : 1048576 < a0.size
  · go_enter Tryd.func8, Tryd.ntmps8
    go_wp2_with fail
    go_ret
    exact ⟨rfl, Below.refl _ _⟩
  have hs : a0.size ≤ 1048576 := by omega
  have cS := fun W => specReadNum a0 a1 W hs
  have cI := fun W (hb : Below w.heap.size w W) => implReadNum a0 a1 W hs (hP.below hb (Nat.le_refl _)) (hE.below hb (Nat.le_refl _))
  unfold RetN at cS
  unfold RetI at cI
  have hk := rd_kids a0 a1
  obtain ⟨d, hd⟩ : ∃ d, rdV (rnP a0 a1) = d := ⟨_, rfl⟩
  obtain ⟨bb, hbb⟩ : ∃ bb, rdE (rnP a0 a1) = bb := ⟨_, rfl⟩
  rw [hd] at cS cI hk
  rw [hbb] at cS cI
  have hbn : (bb != bb) = false := by simp
  have hnod : d.nodes ≤ 1048577 := by rw [V.nodes_eq, hk]; simp [Vs.nodes]
  have hdk : 1 + 4 * Vs.nodes d.kids ≤ 10000000 := by rw [hk]; simp [Vs.nodes]
  have hlie : ∀ W : World, Vs.lies W d.kids none [] := fun W => by rw [hk]; exact .inl ⟨rfl, rfl⟩
  have hatt : ∀ W : World, Vs.at_ W 0 W.heap.size d.kids none := fun W => by rw [hk]; simp [Vs.at_]
  have HL := Lib.hid hlie
  have HAT := Lib.hid hatt
  have HCS := Lib.hid cS
  have HCI := Lib.hid cI
  clear hd hbb cS cI hk hlie hatt w0 w1 hP hE hT
  go_enter Tryd.func8, Tryd.ntmps8
  go_wp2_with fail
  refine (HCS.out w).mono ?_
  rintro e w1 ⟨rfl, hb1⟩
  unfold V.agg
  go_wp2_with fail
  obtain ⟨w2, hw2⟩ : ∃ w2, w2 = w1.alloc (.cells #[.int .i64 d.k, .int .i64 d.n, .int .i64 d.e, .string d.s, .slice none d.kids.length 0] 34) := ⟨_, rfl⟩
  have B2 : Blk w2 w1.heap.size 34 #[.int .i64 d.k, .int .i64 d.n, .int .i64 d.e, .string d.s, .slice none d.kids.length 0] := by rw [hw2]; exact Blk.new w1 _ _
  have bx2 : Below w1.heap.size w1 w2 := by rw [hw2]; exact (Below.refl _ w1).alloc (Nat.le_refl _) _
  rw [← hw2]
  clear hw2
  refine (HCI.out w2 (hb1.trans (bx2.mono hb1.size))).mono ?_
  rintro e w3 ⟨rfl, hb3⟩
  have b02 := hb1.trans (bx2.mono hb1.size)
  have b03 := b02.trans (hb3.mono b02.size)
  have B3 := B2.below hb3 B2.lt
  have lt2 := B2.lt
  clear B2
  unfold V.agg
  obtain ⟨p0, p1, p2, p3, p4⟩ := B3.five
  have ltx3 := B3.lt
  go_wp2_with fail
  obtain ⟨w4, hw4⟩ : ∃ w4, w4 = w3.alloc (.cells #[.int .i64 d.k, .int .i64 d.n, .int .i64 d.e, .string d.s, .slice none d.kids.length 0] 34) := ⟨_, rfl⟩
  have G4 : Blk w4 w3.heap.size 34 #[.int .i64 d.k, .int .i64 d.n, .int .i64 d.e, .string d.s, .slice none d.kids.length 0] := by rw [hw4]; exact Blk.new w3 _ _
  have bx4 : Below w3.heap.size w3 w4 := by rw [hw4]; exact (Below.refl _ w3).alloc (Nat.le_refl _) _
  rw [← hw4]
  clear hw4
  have s24 : w2.heap.size ≤ w4.heap.size := Nat.le_trans hb3.size bx4.size
  have b24 : Below w2.heap.size w2 w4 := hb3.trans (bx4.mono hb3.size)
  have b04 := b02.trans (b24.mono b02.size)
  have B4 := B3.below bx4 B3.lt
  have lt4 := G4.lt
  have HB2 := Lib.hid B4
  have HG := Lib.hid G4
  clear B3 hb3 bx4 p0 p1 p2 p3 p4
  refine (eqValue_any d none none 0 0 w4 hnod (HAT.out w4) (HAT.out w4)).mono ?_
  rintro e w5 ⟨rfl, hb5⟩
  have b25 := b24.trans (hb5.mono s24)
  have b05 := b04.trans (hb5.mono b04.size)
  obtain ⟨p0, p1, p2, p3, p4⟩ := (HB2.out.below hb5 HB2.out.lt).five
  obtain ⟨q0, q1, q2, q3, q4⟩ := (HG.out.below hb5 lt4).five
  go_wp2_with fail
  refine (markValue_any d none 0 1 w5 [] (by omega) hdk (HL.out w5) List.nodup_nil).mono ?_
  rintro e w6 ⟨rfl, hl6, ht6⟩
  have b26 := b25.trans (ht6.below b25.size (fun c hc => by cases hc))
  have b06 := b02.trans (b26.mono b02.size)
  have hb46 : Below w4.heap.size w4 w6 := hb5.trans (ht6.below hb5.size (fun c hc => by cases hc))
  have L6 := Lib.hid hl6
  clear p0 p1 p2 p3 p4 q0 q1 q2 q3 q4 hl6 ht6
  obtain ⟨p0, p1, p2, p3, p4⟩ := (HB2.out.below hb46 HB2.out.lt).five
  obtain ⟨q0, q1, q2, q3, q4⟩ := (HG.out.below hb46 lt4).five
  go_wp2_with fail
  refine (heldValue_any d none 0 1 w6 [] d.kids rfl (by omega) hdk L6.out).mono ?_
  rintro e w7 ⟨rfl, hb7⟩
  have b07 := b06.trans (hb7.mono b06.size)
  have b47 := hb46.trans (hb7.mono hb46.size)
  clear p0 p1 p2 p3 p4 q0 q1 q2 q3 q4
  go_wp2_with fail
  refine (HCI.out w7 b07).mono ?_
  rintro e w8 ⟨rfl, hb8⟩
  have b08 := b07.trans (hb8.mono b07.size)
  have b48 := b47.trans (hb8.mono b47.size)
  have b68 := hb7.trans (hb8.mono hb7.size)
  unfold V.agg
  obtain ⟨p0, p1, p2, p3, p4⟩ := (HB2.out.below b48 HB2.out.lt).five
  have lt8 : w1.heap.size < w8.heap.size := Nat.lt_of_lt_of_le HB2.out.lt b48.size
  go_wp2_with fail
  obtain ⟨w9, hw9⟩ : ∃ w9, w9 = w8.alloc (.cells #[.int .i64 d.k, .int .i64 d.n, .int .i64 d.e, .string d.s, .slice none d.kids.length 0] 34) := ⟨_, rfl⟩
  have H9 : Blk w9 w8.heap.size 34 #[.int .i64 d.k, .int .i64 d.n, .int .i64 d.e, .string d.s, .slice none d.kids.length 0] := by rw [hw9]; exact Blk.new w8 _ _
  have bx9 : Below w8.heap.size w8 w9 := by rw [hw9]; exact (Below.refl _ w8).alloc (Nat.le_refl _) _
  have b09 := b08.trans (bx9.mono b08.size)
  have b49 := b48.trans (bx9.mono b48.size)
  have b69 := b68.trans (bx9.mono b68.size)
  rw [← hw9]
  clear hw9
  clear p0 p1 p2 p3 p4
  obtain ⟨p0, p1, p2, p3, p4⟩ := (HB2.out.below b49 HB2.out.lt).five
  obtain ⟨r0, r1, r2, r3, r4⟩ := H9.five
  refine (eqValue_any d none none 0 0 w9 hnod (HAT.out w9) (HAT.out w9)).mono ?_
  rintro e w10 ⟨rfl, hb10⟩
  have b010 := b09.trans (hb10.mono b09.size)
  have b410 := b49.trans (hb10.mono b49.size)
  have b610 := b69.trans (hb10.mono b69.size)
  clear p0 p1 p2 p3 p4 r0 r1 r2 r3 r4
  obtain ⟨q0, q1, q2, q3, q4⟩ := (HG.out.below b410 lt4).five
  go_wp2_with fail
  refine (heldValue_any d none 0 1 w10 [] d.kids rfl (by omega) hdk (lies_below L6.out b610 (fun c hc => by cases hc))).mono ?_
  rintro e w11 ⟨rfl, hb11⟩
  clear q0 q1 q2 q3 q4
  go_wp2_with fail
  go_ret
  exact ⟨rfl, b010.trans (hb11.mono b010.size)⟩

set_option maxRecDepth 100000 in
theorem lifted (os : Os) (started : os.Started) (H : Type) (enc : TypeId × Value → H) :
    ReturnsInHanded {} Tryd.checked os 8 .any (fun w args => (Rows.fnExactReadNumSpec.pre enc Tryd.prog Tryd.f8 [] false w args ∧ laidMetH Tryd.prog Rows.fnExactReadNumRow.laid w) ∧ sizedMet enc Tryd.prog Tryd.f8 (OpenSpec.ofChange Rows.fnExactReadNumSpec) false w args)
      (Rows.fnExactReadNumSpec.post enc Tryd.prog Tryd.f8 false true false false) := by
  refine returnsInHanded_of_change_and (C := Tryd.checked) (X := fun w _ => laidMetH Tryd.prog Rows.fnExactReadNumRow.laid w) (fun _ _ _ hh h => h.of_heap hh) own started (by kernel_rfl) Tryd.func8
    (ChangeSpec.witness_shaped (enc := enc) (C := Tryd.checked) (os := os) (X := fun w _ => laidMetH Tryd.prog Rows.fnExactReadNumRow.laid w) false (World.laidAll Tryd.prog os Rows.fnExactReadNumRow.laid) #[.string ByteArray.empty, .int .i64 0] 8 (World.laidAll_os _ _ _)
      (World.shaped_of_ZipB (by kernel_rfl) (by kernel_rfl)) (by kernel_rfl) (by kernel_rfl) (by kernel_rfl)
      (by rw [MakeChecks.laidMetH_plain _ _ _ (by kernel_rfl)]; exact laidMet_laidAll _ (by kernel_rfl) (by kernel_rfl))) ?_
  intro W base args ds gs before hval0 hW _ _ hL _
  rw [MakeChecks.laidMetH_plain _ _ _ (by kernel_rfl)] at hL
  have hP : Pow10 W := pow_of_laid hL (.tail _ (.tail _ (.head _)))
  have hE : Errs W := errs_of_laid hL.tail.tail.tail.tail
  have hT : Tabs W := tabs_of_laid hL (.tail _ (.tail _ (.tail _ (.head _)))) (.tail _ (.tail _ (.tail _ (.tail _ (.tail _ (.tail _ (.head _)))))))
  have hval : ∀ (j : Nat) t v, Tryd.f8.params[j]? = some t → args[j]? = some v → Value.okWide Tryd.prog W .any base t v := hval0
  have hW' := hW
  obtain ⟨p, q, hA0, hV, rfl, hfz, hnd⟩ := hW
  have hA : DataW.TrodAll enc Tryd.prog W 0 (fun _ => true) true Tryd.f8.params.toList args.toList ds p := hA0
  rw [Tryd.params8] at hA hval
  obtain ⟨v0, vs0, d0, ds0, p0, q0, hargs, rfl, rfl, h0, r0⟩ := trodAll_cons hA
  obtain ⟨v1, vs1, d1, ds1, p1, q1, rfl, rfl, rfl, h1, r1⟩ := trodAll_cons r0
  obtain ⟨rfl, rfl, rfl⟩ := trodAll_nil r1
  obtain rfl : args = #[v0, v1] := by cases args; simp_all
  obtain ⟨rfl, rfl⟩ := trodVars_none hV
  obtain ⟨a0, rfl, rfl, rfl, w0⟩ := open_string Tryd.underlying9 (hval 0 9 v0 rfl rfl) h0
  obtain ⟨a1, rfl, rfl, rfl, w1⟩ := open_int Tryd.underlying3 (hval 1 3 v1 rfl rfl) h1
  clear hA0 hval0
  refine (walk a0 w0 a1 w1 W hP hE hT).mono fun e W' ⟨he, bel⟩ => ?_
  subst he
  exact ⟨_, rfl, _, _, _, [], _, [], hW', trodAll_mk1 (shut_bool Tryd.underlying4 _), (trodAll_cons_mk (shut_string Tryd.underlying9 w0) (trodAll_cons_mk (shut_int Tryd.underlying3 w1) trodAll_mk0)), rfl, bel.frame _, fun h => by cases h⟩

theorem over : Rows.fnExactReadNumRow.holds Tryd.pinned (OpenSpec.ofChange Rows.fnExactReadNumSpec) :=
  OpenClaim.holds_of_wide 8 Tryd.f8 rfl rfl rfl rfl rfl rfl rfl ⟨rfl, rfl, rfl, rfl, rfl⟩ rfl rfl rfl rfl rfl (by kernel_rfl) Tryd.func8 (by kernel_rfl)
    (of_decide_eq_true (by kernel_rfl)) (by unfold Func.isWrapper; first | (rw [if_pos (by decide +kernel)]; kernel_rfl) | (rw [if_neg (by decide +kernel)]; exact ⟨rfl, rfl⟩))
    (fun os started H enc _ => lifted os started H enc)

theorem proved : Rows.FnExactReadNumCardSaid :=
  Claim7.holds_tied_plain_at .later [] _ _ _ _ over (fun _ h => by cases h) (by kernel_rfl) (fun _ h => by cases h) fnExactReadNum_row_tie rfl ⟨rfl, rfl⟩ (by kernel_rfl) rfl
    (fun f fn hf hfn => by
      obtain rfl : f = 8 := Option.some.inj ((show Tryd.prog.funcNamed "loop.example/g00421/laws.FnExactReadNum" = some 8 by kernel_rfl).symm.trans hf) |>.symm
      obtain rfl : fn = Tryd.f8 := (Option.some.inj (Tryd.func8.symm.trans hfn)).symm
      exact ⟨by kernel_rfl, fun j t ht => by
        rw [Tryd.params8] at ht
        have hm : t ∈ [9, 3] := by simpa using Array.mem_of_getElem? ht
        have hall : ([9, 3].all fun u => !Tryd.prog.wantsStandIn u) = true := by kernel_rfl
        exact (show Tryd.prog.wantsStandIn t = false by simpa using List.all_eq_true.1 hall t hm)⟩)
    (by kernel_rfl)
end Go.Proofs.YtbflkcldjjpioaaDoor.fnExactReadNum
