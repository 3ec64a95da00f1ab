/-
  The laws' marks in a tree: the walk of markValueS and markValue.
-/
import Derived.Test.YtbflkcldjjpioaaMarkTree
import Derived.Handy
namespace Go.Proofs.Ytbflkcldjjpioaa
open Go.RowKit
set_option linter.unusedVariables false
set_option linter.unusedSimpArgs false

def MarkSaid (l : List V) : Prop := ∀ (A : Option Addr) (cap k : Nat) (w : World) (F : List Nat), 0 < k → k + 4 * Vs.nodes l ≤ 10000000 → Vs.lies w l A F → F.Nodup →
    Calls Try.prog 17 #[.slice A l.length cap, .int .i64 k] w fun e w' => e = .returned (.int .i64 ((k + 4 * Vs.nodes l : Nat) : Int)) ∧ Vs.lies w' (Vs.mark l k) A F ∧ Touch F w w'

/-- What the loop has done behind j values. -/
def MkRel (l : List V) (b : Nat) (G : List Nat) (k : Nat) (w : World) (q i : Value) (wr : World) : Prop :=
  ∃ j : Nat, j ≤ l.length ∧ i = .int .i64 j ∧ q = .int .i64 ((k + 4 * Vs.nodes (l.take j) : Nat) : Int) ∧ b < wr.heap.size ∧ soft wr b ∧ Vs.cells wr b 0 (Vs.markTo l k j) G ∧ Touch (b :: G) w wr

theorem nodes_step (l : List V) (j : Nat) (h : j < l.length) : Vs.nodes (l.take (j + 1)) = Vs.nodes (l.take j) + (l[j]).nodes := by
  rw [List.take_succ_eq_append_getElem h]
  have : ∀ a : List V, ∀ v : V, Vs.nodes (a ++ [v]) = Vs.nodes a + v.nodes := by
    intro a v
    induction a with
    | nil => simp [Vs.nodes]
    | cons x a ih => simp only [List.cons_append, Vs.nodes, ih]; omega
  exact this _ _
theorem nodes_take_le (l : List V) (j : Nat) (h : j < l.length) : Vs.nodes (l.take j) + (l[j]).nodes ≤ Vs.nodes l := by
  have h1 := nodes_step l j h
  have : ∀ (a : List V) (i : Nat), Vs.nodes (a.take i) ≤ Vs.nodes a := by
    intro a
    induction a with
    | nil => intro i; simp
    | cons x a ih =>
      intro i
      cases i with
      | zero => simp [Vs.nodes]
      | succ i => simp only [List.take_succ_cons, Vs.nodes]; have := ih i; omega
  have h2 := this l (j + 1)
  omega

/-- The three numbers of a value, marked. -/
def mark3 (w : World) (b o : Nat) (k : Nat) : World := ((w.setCell ⟨b, o, none⟩ (.int .i64 (k : Int))).setCell ⟨b, o + 1, none⟩ (.int .i64 ((k : Int) + 1))).setCell ⟨b, o + 2, none⟩ (.int .i64 ((k : Int) + 2))
theorem mark3_size (w : World) (b o k : Nat) : (mark3 w b o k).heap.size = w.heap.size := by simp [mark3]
theorem mark3_other {w : World} {b o k : Nat} {p : Addr} (h : p.block ≠ b ∨ p.off < o ∨ o + 3 ≤ p.off) : (mark3 w b o k).cell? p = w.cell? p := by
  unfold mark3
  rw [World.cell?_setCell_other _ _ _ _ (addr_ne (G := b) (q := o + 2) (by omega)), World.cell?_setCell_other _ _ _ _ (addr_ne (G := b) (q := o + 1) (by omega)), World.cell?_setCell_other _ _ _ _ (addr_ne (G := b) (q := o) (by omega))]
theorem mark3_block {w : World} {b o k : Nat} {c : Nat} (h : c ≠ b) : (mark3 w b o k).heap[c]? = w.heap[c]? := by
  unfold mark3
  rw [Below.heap_setCell _ _ _ _ (by exact h), Below.heap_setCell _ _ _ _ (by exact h), Below.heap_setCell _ _ _ _ (by exact h)]
theorem mark3_frozen (w : World) (b o k : Nat) (p : Addr) : (mark3 w b o k).frozen? p = w.frozen? p := by simp [mark3]
theorem mark3_touch {F : List Nat} {a w : World} {b o k : Nat} (h : Touch F a w) (hb : b ∈ F) : Touch F a (mark3 w b o k) := ((h.set hb _).set hb _).set hb _
theorem mark3_at {w : World} {b o k : Nat} {v : V} {A : Option Addr} {c : Nat} (h : CellsAt w b o v A c) :
    (mark3 w b o k).cell? ⟨b, o, none⟩ = some (.int .i64 (k : Int)) ∧ (mark3 w b o k).cell? ⟨b, o + 1, none⟩ = some (.int .i64 ((k : Int) + 1)) ∧ (mark3 w b o k).cell? ⟨b, o + 2, none⟩ = some (.int .i64 ((k : Int) + 2)) := by
  obtain ⟨h0, h1, h2, h3, h4⟩ := h
  have ne : ∀ {a c : Nat}, a ≠ c → (⟨b, a, none⟩ : Addr) ≠ ⟨b, c, none⟩ := fun h e => h (by injection e)
  unfold mark3
  refine ⟨?_, ?_, ?_⟩
  · rw [World.cell?_setCell_other _ _ _ _ (ne (by omega)), World.cell?_setCell_other _ _ _ _ (ne (by omega))]
    exact World.cell?_setCell_same _ _ _ h0
  · rw [World.cell?_setCell_other _ _ _ _ (ne (by omega))]
    exact World.cell?_setCell_same _ _ _ ((World.cell?_setCell_other _ _ _ _ (ne (by omega))).trans h1)
  · exact World.cell?_setCell_same _ _ _ ((World.cell?_setCell_other _ _ _ _ (ne (by omega))).trans ((World.cell?_setCell_other _ _ _ _ (ne (by omega))).trans h2))

/-- The whole round, said of worlds alone. -/
theorem mk_next {l : List V} {b k j cap : Nat} {G G1 Gj G2 : List Nat} {A' : Option Addr} {w wr w1 w6 : World} (hj : j < l.length) (hG : G = G1 ++ (Gj ++ G2)) (hnd : (b :: G).Nodup) (hbl : b < wr.heap.size) (hs : soft wr b)
    (hG0 : ∀ c ∈ G, c < wr.heap.size)
    (hc : CellsAt wr b (j * 5) l[j] A' cap) (ht : Touch (b :: G) w wr)
    (hcont : ∀ w' : World, CellsAt w' b (j * 5) (l[j].mark (k + 4 * Vs.nodes (l.take j))) A' cap → Vs.lies w' (Vs.mark (l[j]).kids (k + 4 * Vs.nodes (l.take j) + 4)) A' Gj →
        (∀ q, (q < j * 5 ∨ j * 5 + 5 ≤ q) → w'.cell? ⟨b, q, none⟩ = wr.cell? ⟨b, q, none⟩) → SameIn (G1 ++ G2) wr w' → Vs.cells w' b 0 (Vs.markTo l k (j + 1)) G)
    (hb1 : Below (mark3 wr b (j * 5) (k + 4 * Vs.nodes (l.take j))).heap.size (mark3 wr b (j * 5) (k + 4 * Vs.nodes (l.take j))) w1)
    (h6 : Vs.lies w6 (Vs.mark (l[j]).kids (k + 4 * Vs.nodes (l.take j) + 4)) A' Gj) (t6 : Touch Gj (w1.setCell ⟨b, j * 5 + 3, none⟩ (.string (mtext (k + 4 * Vs.nodes (l.take j) + 3)))) w6) {q i : Value} (hi : i = .int .i64 ((j : Int) + 1))
    (hq : q = .int .i64 ((k + 4 * Vs.nodes (l.take j) + 4 + 4 * Vs.nodes (l[j]).kids : Nat) : Int)) : MkRel l b G k w q i w6 := by
  subst hi hq
  have hnb : b ∉ G := (List.nodup_cons.1 hnd).1
  have hnG := (List.nodup_cons.1 hnd).2
  have hsz : (mark3 wr b (j * 5) (k + 4 * Vs.nodes (l.take j))).heap.size = wr.heap.size := mark3_size _ _ _ _
  have hw1 : wr.heap.size ≤ w1.heap.size := by rw [← hsz]; exact hb1.size
  have hw6 : w1.heap.size ≤ w6.heap.size := by have := t6.size; simpa using this
  have hbj : b ∉ Gj := fun h => hnb (by rw [hG]; simp [h])
  -- block b of w6
  have hb6 : w6.heap[b]? = (w1.setCell ⟨b, j * 5 + 3, none⟩ (.string (mtext (k + 4 * Vs.nodes (l.take j) + 3)))).heap[b]? := t6.block b (by simp; omega) hbj
  have hb1' : w1.heap[b]? = (mark3 wr b (j * 5) (k + 4 * Vs.nodes (l.take j))).heap[b]? := hb1.block b (by rw [hsz]; exact hbl)
  have cell6 : ∀ o, w6.cell? ⟨b, o, none⟩ = (w1.setCell ⟨b, j * 5 + 3, none⟩ (.string (mtext (k + 4 * Vs.nodes (l.take j) + 3)))).cell? ⟨b, o, none⟩ := fun o => World.cell?_of_block hb6
  have cell1 : ∀ o, w1.cell? ⟨b, o, none⟩ = (mark3 wr b (j * 5) (k + 4 * Vs.nodes (l.take j))).cell? ⟨b, o, none⟩ := fun o => World.cell?_of_block hb1'
  have ne : ∀ {a c : Nat}, a ≠ c → (⟨b, a, none⟩ : Addr) ≠ ⟨b, c, none⟩ := fun h e => h (by injection e)
  obtain ⟨m0, m1, m2⟩ := mark3_at (k := k + 4 * Vs.nodes (l.take j)) hc
  have hcell3 : w1.cell? ⟨b, j * 5 + 3, none⟩ = some (.string l[j].s) := by rw [cell1, mark3_other (.inr (.inr (Nat.le_refl _)))]; exact hc.2.2.2.1
  have fin : Vs.cells w6 b 0 (Vs.markTo l k (j + 1)) G := by
    refine hcont w6 ⟨?_, ?_, ?_, ?_, ?_⟩ h6 ?_ ⟨by omega, ?_⟩
    · rw [cell6, World.cell?_setCell_other _ _ _ _ (ne (by omega)), cell1, m0, V.mark_k]
    · rw [cell6, World.cell?_setCell_other _ _ _ _ (ne (by omega)), cell1, m1, V.mark_n]; rfl
    · rw [cell6, World.cell?_setCell_other _ _ _ _ (ne (by omega)), cell1, m2, V.mark_e]; rfl
    · rw [cell6, V.mark_s]; exact World.cell?_setCell_same _ _ _ hcell3
    · rw [cell6, World.cell?_setCell_other _ _ _ _ (ne (by omega)), cell1, mark3_other (.inr (.inr (by show j * 5 + 3 ≤ j * 5 + 4; omega))), V.mark_kids, Vs.mark_len]; exact hc.2.2.2.2
    · intro o ho
      rw [cell6, World.cell?_setCell_other _ _ _ _ (ne (by omega)), cell1, mark3_other (by rcases ho with ho | ho; exact .inr (.inl ho); exact .inr (.inr (by show j * 5 + 3 ≤ o; omega)))]
    · intro c hcG
      have hcg : c ∈ G := by rw [hG]; simp at hcG ⊢; rcases hcG with h | h <;> simp [h]
      have hcb : c ≠ b := fun e => hnb (e ▸ hcg)
      have hcl := hG0 c hcg
      have hcj : c ∉ Gj := fun h => by
        rw [hG] at hnG
        rcases List.mem_append.1 hcG with h1 | h1
        · exact (List.nodup_append.1 hnG).2.2 c h1 c (List.mem_append.2 (.inl h)) rfl
        · exact (List.nodup_append.1 (List.nodup_append.1 hnG).2.1).2.2 c h c h1 rfl
      rw [t6.block c (by simp; omega) hcj, Below.heap_setCell _ _ _ _ (by exact hcb), hb1.block c (by rw [hsz]; exact hcl), mark3_block hcb]
  refine ⟨j + 1, by omega, by go_num, ?_, by omega, ?_, fin, ?_⟩
  · rw [nodes_step l j hj, V.nodes_eq]
    congr 1
    omega
  · intro o
    have h1 := World.frozen?_of_block (a := ⟨b, o, none⟩) hb6
    rw [h1, World.frozen?_setCell]
    have h2 := World.frozen?_of_block (a := ⟨b, o, none⟩) hb1'
    rw [h2, mark3_frozen]
    exact hs o
  · have h1 := mark3_touch (o := j * 5) (k := k + 4 * Vs.nodes (l.take j)) ht (List.mem_cons_self (a := b) (l := G))
    have h2 := h1.trans (Touch.of_below hb1)
    have h3 := h2.set (p := ⟨b, j * 5 + 3, none⟩) (List.mem_cons_self (a := b) (l := G)) (.string (mtext (k + 4 * Vs.nodes (l.take j) + 3)))
    exact h3.trans (t6.more fun c h => by rw [hG]; simp [h])

mutual
theorem V.lies_lt {w : World} : ∀ (v : V) (A : Option Addr) (F : List Nat), V.lies w v A F → ∀ c ∈ F, c < w.heap.size
  | .mk _ _ _ _ ks, A, F, h, c, hc => by
    simp only [V.lies] at h
    rcases h with ⟨_, rfl⟩ | ⟨b, G, h1, rfl, h3, h4, h5⟩
    · cases hc
    · rcases List.mem_cons.1 hc with rfl | hc
      · exact h3
      · exact Vs.cells_lt b 0 ks G h5 c hc
theorem Vs.cells_lt {w : World} (b : Nat) : ∀ (off : Nat) (l : List V) (G : List Nat), Vs.cells w b off l G → ∀ c ∈ G, c < w.heap.size
  | _, [], G, h, c, hc => by simp only [Vs.cells] at h; subst h; cases hc
  | off, v :: r, G, h, c, hc => by
    simp only [Vs.cells] at h
    obtain ⟨A', cap, G1, G2, rfl, h2, h3, h4, h5⟩ := h
    rcases List.mem_append.1 hc with hc | hc
    · exact V.lies_lt v A' G1 h4 c hc
    · exact Vs.cells_lt b (off + 5) r G2 h5 c hc
end

set_option maxHeartbeats 2000000 in
theorem mark_step (l : List V) (hk : ∀ i (h : i < l.length), MarkSaid (l[i]).kids) : MarkSaid l := by
  intro A cap k w F hk0 hkn hl hnd
  have hlen := Vs.len_nodes l
  have HC := Lib.hid hk
  clear hk
  rcases hl with ⟨rfl, rfl⟩ | ⟨b, G, rfl, rfl, hbl, hsf, hcs⟩
  · go_enter Try.func17, Try.ntmps17
    go_wp2_with fail
    go_rounds 1
    go_ret
    exact ⟨rfl, .inl ⟨rfl, rfl⟩, Touch.refl _ _⟩
  · have HCS := Lib.hid (show Vs.cells w b 0 (Vs.markTo l k 0) G by rw [Vs.markTo_none]; exact hcs)
    have HND := Lib.hid hnd
    have HSF := Lib.hid hsf
    clear hcs hnd hsf
    go_enter Try.func17, Try.ntmps17
    go_wp2_with fail
    go_loopw [1, 5] (fun q i wr => MkRel l b G k w q i wr) (fun _ i _ => l.length - (intOf i).toNat)
    case atStart => exact ⟨0, Nat.zero_le _, rfl, by simp [Vs.nodes], hbl, HSF.out, HCS.out, Touch.refl _ _⟩
    case round =>
      obtain ⟨j, hj, rfl, rfl, hb1, hs1, hc1, ht1⟩ := hrel
      by_cases hlt : j < l.length
      · have hnt := nodes_take_le l j hlt
        rw [V.nodes_eq] at hnt
        have HB0 := Lib.hid (Vs.cells_lt b 0 _ G hc1)
        obtain ⟨A', cap', G1, Gj, G2, hG, hc, hlj, hcont⟩ := mark_round hlt hc1
        have HCELL := Lib.hid hc
        have HNX := Lib.hid (fun w1 w6 q i => mk_next (w1 := w1) (w6 := w6) (q := q) (i := i) hlt hG HND.out hb1 hs1 HB0.out hc ht1 hcont)
        have hGj : ∀ c ∈ Gj, c ∈ G := fun c h => by rw [hG]; simp [h]
        have hnj : Gj.Nodup := by
          have h1 := (List.nodup_cons.1 HND.out).2
          rw [hG] at h1
          exact (List.nodup_append.1 (List.nodup_append.1 h1).2.1).1
        have hbj : b ∉ Gj := fun h => (List.nodup_cons.1 HND.out).1 (hGj b h)
        have HGJ := Lib.hid hGj
        have HNJ := Lib.hid hnj
        have HBJ := Lib.hid hbj
        have HLJ := Lib.hid hlj
        obtain ⟨m, hm⟩ : ∃ m, k + 4 * Vs.nodes (l.take j) = m := ⟨_, rfl⟩
        rw [hm] at HNX ⊢
        have hmb : m + 4 + 4 * Vs.nodes (l[j]).kids ≤ 10000000 := by omega
        obtain ⟨c0, c1, c2, c3, c4⟩ := hc
        have k0 := hs1 (j * 5)
        have k1 := hs1 (j * 5 + 1)
        have k2 := hs1 (j * 5 + 2)
        have hm0 : 0 < m := by omega
        have HM := Lib.hid hm
        have HS1 := Lib.hid hs1
        clear hG hlj hcont hGj hnj hbj hm hs1 hc1 ht1
        go_wp2_with fail
        refine (markText (m + 3) _ (by omega) (by omega)).mono ?_
        rintro e w1 ⟨rfl, hbt⟩
        have hbt' : Below (mark3 wr b (j * 5) m).heap.size (mark3 wr b (j * 5) m) w1 := hbt
        have hsz3 := mark3_size wr b (j * 5) m
        have hblk : ∀ c, c < wr.heap.size → w1.heap[c]? = (mark3 wr b (j * 5) m).heap[c]? := fun c h => hbt'.block c (by rw [hsz3]; exact h)
        have hw1 : wr.heap.size ≤ w1.heap.size := by have := hbt'.size; omega
        have d3 : w1.cell? ⟨b, j * 5 + 3, none⟩ = some (.string l[j].s) := by
          rw [World.cell?_of_block (a := ⟨b, j * 5 + 3, none⟩) (hblk b hb1), mark3_other (.inr (.inr (Nat.le_refl _)))]; exact c3
        have d4 : w1.cell? ⟨b, j * 5 + 4, none⟩ = some (.slice A' (l[j]).kids.length cap') := by
          rw [World.cell?_of_block (a := ⟨b, j * 5 + 4, none⟩) (hblk b hb1), mark3_other (.inr (.inr (by show j * 5 + 3 ≤ j * 5 + 4; omega)))]; exact c4
        have e3 : w1.frozen? ⟨b, j * 5 + 3, none⟩ = false := by
          rw [World.frozen?_of_block (a := ⟨b, j * 5 + 3, none⟩) (hblk b hb1), mark3_frozen]; exact HS1.out _
        have HBT := Lib.hid hbt'
        have HBLK := Lib.hid hblk
        clear c0 c1 c2 c3 c4 k0 k1 k2 hbt hbt' hblk hsz3
        go_wp2_with fail
        have hl5 : Vs.lies (w1.setCell ⟨b, j * 5 + 3, none⟩ (.string (mtext (m + 3)))) (l[j]).kids A' Gj := by
          refine Vs.lies_same HLJ.out ⟨by simpa using hw1, fun c hc => ?_⟩
          have hcb : c ≠ b := fun e => HBJ.out (e ▸ hc)
          rw [Below.heap_setCell _ _ _ _ (by exact hcb), HBLK.out c (HB0.out c (HGJ.out c hc)), mark3_block hcb]
        refine (HC.out j hlt A' cap' (m + 4) _ Gj (by omega) (by omega) hl5 HNJ.out).mono ?_
        rintro e w6 ⟨rfl, hl6, ht6⟩
        have HL6 := Lib.hid hl6
        have HT6 := Lib.hid ht6
        clear hl5 hl6 ht6 d3 d4 e3
        go_wp2_with fail
        go_roundw
        case rel => exact HNX.out w1 w6 _ _ HBT.out HL6.out HT6.out rfl (by go_num)
        case measure => simp [intOf]; omega
      · obtain rfl : j = l.length := by omega
        rw [List.take_length, Vs.markTo_all] at *
        have HT := Lib.hid ht1
        have HCC := Lib.hid hc1
        have HSS := Lib.hid hs1
        clear ht1 hc1 hs1
        go_wp2_with fail
        go_ret
        exact ⟨rfl, .inr ⟨b, G, rfl, rfl, hb1, HSS.out, HCC.out⟩, HT.out⟩
end Go.Proofs.Ytbflkcldjjpioaa
