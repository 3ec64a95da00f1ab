/-
  A value of the laws turned into one of the program: the same tree, in new memory, each row in a block of its own.
-/
import Derived.Test.YtlfiaccpihjldaaTo
import Derived.Test.YtlfiaccpihjldaaHeldWalk
namespace Go.Proofs.Ytlfiaccpihjldaa
open Go.RowKit
set_option linter.unusedVariables false
set_option linter.unusedSimpArgs false

def To2Said (v : V) : Prop := ∀ (A : Option Addr) (cap : Nat) (w : World), v.nodes ≤ 1048577 → Vs.at_ w 0 w.heap.size v.kids A →
    Calls Try.prog 11 #[v.agg A cap] w fun e w' => ∃ A' c' F, e = .returned (v.agg A' c') ∧ v.kids.length ≤ c' ∧ Vs.lies w' v.kids A' F ∧ F.Nodup ∧ (∀ c ∈ F, w.heap.size ≤ c) ∧ Below w.heap.size w w'
def To2SSaid (l : List V) : Prop := ∀ (A : Option Addr) (cap : Nat) (w : World), l.length ≤ 1048576 → Vs.nodes l ≤ 1048576 → Vs.at_ w 0 w.heap.size l A →
    Calls Try.prog 30 #[.slice A l.length cap] w fun e w' => ∃ A' c' F, e = .returned (.slice A' l.length c') ∧ l.length ≤ c' ∧ Vs.lies w' l A' F ∧ F.Nodup ∧ (∀ c ∈ F, w.heap.size ≤ c) ∧ Below w.heap.size w w'

mutual
theorem V.lies_at {w : World} {lo : Nat} : ∀ (v : V) (A : Option Addr) (F : List Nat), V.lies w v A F → (∀ c ∈ F, lo ≤ c) → V.at_ w lo w.heap.size v A
  | .mk _ _ _ _ ks, A, F, h, hF => by
    simp only [V.lies] at h
    simp only [V.at_]
    rcases h with ⟨rfl, rfl⟩ | ⟨b, G, rfl, rfl, h3, h4, h5⟩
    · simp only [Vs.at_]
    · exact Vs.cells_at_ b 0 ks G h5 (hF b (by simp)) h3 (fun c hc => hF c (by simp [hc]))
theorem Vs.cells_at_ {w : World} {lo : Nat} (b : Nat) : ∀ (off : Nat) (l : List V) (G : List Nat), Vs.cells w b off l G → lo ≤ b → b < w.heap.size → (∀ c ∈ G, lo ≤ c) → Vs.at_ w lo w.heap.size l (some ⟨b, off, none⟩)
  | _, [], G, h, _, _, _ => by simp only [Vs.at_]
  | off, v :: r, G, h, h1, h2, hG => by
    simp only [Vs.cells] at h
    simp only [Vs.at_]
    obtain ⟨A', cap, G1, G2, rfl, k2, k3, k4, k5⟩ := h
    exact ⟨b, off, A', cap, rfl, h1, h2, k2, k3, V.lies_at v A' G1 k4 (fun c hc => hG c (by simp [hc])), Vs.cells_at_ b (off + 5) r G2 k5 h1 h2 (fun c hc => hG c (by simp [hc]))⟩
end
theorem Vs.lies_at {w : World} {lo : Nat} {l : List V} {A : Option Addr} {F : List Nat} (h : Vs.lies w l A F) (hF : ∀ c ∈ F, lo ≤ c) : Vs.at_ w lo w.heap.size l A := by
  have h1 : V.lies w (.mk 0 0 0 ⟨#[]⟩ l) A F := V.lies_kids.2 h
  have h2 := V.lies_at _ A F h1 hF
  simpa only [V.at_] using h2
/-- One value more at the end of a row. -/
theorem Vs.cells_snoc {w : World} {b : Nat} {v : V} {A : Option Addr} {cap : Nat} {Gj : List Nat} (hc : v.kids.length ≤ cap) (hl : V.lies w v A Gj) : ∀ (l : List V) (off : Nat) (G : List Nat), Vs.cells w b off l G → CellsAt w b (off + l.length * 5) v A cap →
    Vs.cells w b off (l ++ [v]) (G ++ Gj)
  | [], off, G, h, h1 => by
    simp only [Vs.cells] at h
    subst h
    simp only [List.nil_append, Vs.cells]
    exact ⟨A, cap, Gj, [], by simp, hc, by simpa using h1, hl, rfl⟩
  | a :: l, off, G, h, h1 => by
    simp only [Vs.cells] at h
    obtain ⟨A', cap', G1, G2, rfl, k2, k3, k4, k5⟩ := h
    simp only [List.cons_append, Vs.cells]
    refine ⟨A', cap', G1, G2 ++ Gj, by simp, k2, k3, k4, Vs.cells_snoc hc hl l (off + 5) G2 k5 ?_⟩
    rw [show off + 5 + l.length * 5 = off + (a :: l).length * 5 by simp; omega]
    exact h1
/-- A row of which the cells are as they were. -/
theorem Vs.cells_front {w w' : World} {b : Nat} : ∀ (l : List V) (off : Nat) (G : List Nat), Vs.cells w b off l G → (∀ q, q < off + l.length * 5 → w'.cell? ⟨b, q, none⟩ = w.cell? ⟨b, q, none⟩) → SameIn G w w' → Vs.cells w' b off l G
  | [], off, G, h, _, _ => by simp only [Vs.cells] at h ⊢; exact h
  | a :: l, off, G, h, h1, h2 => by
    simp only [Vs.cells] at h ⊢
    obtain ⟨A', cap', G1, G2, rfl, k2, k3, k4, k5⟩ := h
    exact ⟨A', cap', G1, G2, rfl, k2, k3.keep fun q hq => h1 _ (by simp; omega), V.lies_same _ _ _ k4 ⟨h2.1, fun c hc => h2.2 c (by simp [hc])⟩,
      Vs.cells_front l (off + 5) G2 k5 (fun q hq => h1 q (by simp; omega)) ⟨h2.1, fun c hc => h2.2 c (by simp [hc])⟩⟩

set_option maxHeartbeats 1000000 in
theorem to2_step (v : V) (hk : To2SSaid v.kids) : To2Said v := by
  intro A cap w hn hat
  rw [V.nodes_eq] at hn
  have hl : v.kids.length ≤ 1048576 := by have := Vs.len_nodes v.kids; omega
  have HK := fun (c : Nat) (w' : World) (hat' : Vs.at_ w' 0 w'.heap.size v.kids A) => hk A c w' hl (by omega) hat'
  have HC := Lib.hid HK
  clear HK hk
  unfold V.agg
  go_enter Try.func11, Try.ntmps11
  go_wp2_with fail
  refine (HC.out _ _ (Vs.at_more (Nat.le_refl _) (by simp; omega) _ _ (Vs.at_keep (fun p _ hp => by rw [World.cell?_alloc_lt _ _ _ (by simp; omega), World.cell?_alloc_lt _ _ _ (by simp; omega), World.cell?_alloc_lt _ _ _ hp]) _ _ hat))).mono ?_
  rintro e w1 ⟨A', c', F, rfl, hc', hl1, hnd, hF, hb1⟩
  have B2 := (Blk.new ((w.alloc _).alloc _) _ _).below hb1 (by simp)
  have B1 := ((Blk.new (w.alloc _) _ _).alloc _).below hb1 (by simp)
  simp only [World.size_alloc] at B1 B2 hb1 hF
  have c20 : w1.cell? ⟨w.heap.size + 1 + 1, 0, none⟩ = some (.int .i64 v.k) := B2.cell 0
  have c21 : w1.cell? ⟨w.heap.size + 1 + 1, 1, none⟩ = some (.int .i64 v.n) := B2.cell 1
  have c22 : w1.cell? ⟨w.heap.size + 1 + 1, 2, none⟩ = some (.int .i64 v.e) := B2.cell 2
  have c23 : w1.cell? ⟨w.heap.size + 1 + 1, 3, none⟩ = some (.string v.s) := B2.cell 3
  have c24 : w1.cell? ⟨w.heap.size + 1 + 1, 4, none⟩ = some (.slice none 0 0) := B2.cell 4
  have f24 := B2.frozen 4
  have c10 : w1.cell? ⟨w.heap.size + 1, 0, none⟩ = some (.int .i64 0) := B1.cell 0
  have c11 : w1.cell? ⟨w.heap.size + 1, 1, none⟩ = some (.int .i64 0) := B1.cell 1
  have c12 : w1.cell? ⟨w.heap.size + 1, 2, none⟩ = some (.int .i64 0) := B1.cell 2
  have c13 : w1.cell? ⟨w.heap.size + 1, 3, none⟩ = some (.string ⟨#[]⟩) := B1.cell 3
  have c14 : w1.cell? ⟨w.heap.size + 1, 4, none⟩ = some (.slice none 0 0) := B1.cell 4
  have f10 := B1.frozen 0
  have f11 := B1.frozen 1
  have f12 := B1.frozen 2
  have f13 := B1.frozen 3
  have f14 := B1.frozen 4
  clear B1 B2 hat
  have hbw : Below w.heap.size w w1 := ((((Below.refl _ w).alloc (Nat.le_refl _) _).alloc (by simp) _).alloc (by simp; omega) _).trans (hb1.mono (by omega))
  have hs1 : w.heap.size + 1 + 1 + 1 ≤ w1.heap.size := by have := hb1.size; simpa using this
  have HB := Lib.hid hbw
  have HA := Lib.hid hl1
  have HND := Lib.hid hnd
  have HF := Lib.hid hF
  clear hbw hl1 hnd hF hb1 HC
  go_wp2_with fail
  refine bodyPost_ret (v := .agg #[.int .i64 v.k, .int .i64 v.n, .int .i64 v.e, .string v.s, .slice A' v.kids.length c']) (by simp [results, Try.results11, go_sem, c20, c21, c22, c23, c10, c11, c12, c13, c14]) rfl ⟨A', c', F, rfl, hc', Vs.lies_same HA.out ⟨by simp, fun c hc => ?_⟩, HND.out, fun c hc => by have := HF.out c hc; omega, ?_⟩
  · have hcn : c ≠ w.heap.size + 1 := by have := HF.out c hc; omega
    rw [Below.heap_setCell _ _ _ _ (by exact hcn), Below.heap_setCell _ _ _ _ (by exact hcn), Below.heap_setCell _ _ _ _ (by exact hcn), Below.heap_setCell _ _ _ _ (by exact hcn), Below.heap_setCell _ _ _ _ (by exact hcn), Below.heap_setCell _ _ _ _ (by intro e; have := HF.out c hc; simp at e; omega)]
  · exact ((((((HB.out.setCell (by simp; try omega) _).setCell (by simp; try omega) _).setCell (by simp; try omega) _).setCell (by simp; try omega) _).setCell (by simp; try omega) _).setCell (by simp; try omega) _)

/-- What the loop has laid: the first j elements. -/
def To2Rel (l : List V) (w : World) (j : Nat) (wr : World) : Prop :=
  (∃ xs, wr.ownsRow w.heap.size 29 5 (.slice (some ⟨w.heap.size, 0, none⟩) l.length l.length) l.length xs) ∧ Below w.heap.size w wr ∧
  ∃ G, Vs.cells wr w.heap.size 0 (l.take j) G ∧ G.Nodup ∧ ∀ c ∈ G, w.heap.size < c

theorem to2_next {l : List V} {w wr w2 : World} {j : Nat} (hlt : j < l.length) (hb : Below w.heap.size w wr)
    (hrow : ∃ G, Vs.cells wr w.heap.size 0 (l.take j) G ∧ G.Nodup ∧ ∀ c ∈ G, w.heap.size < c)
    (hb2 : Below wr.heap.size wr w2) {xs : List Value} (hown : w2.ownsRow w.heap.size 29 5 (.slice (some ⟨w.heap.size, 0, none⟩) l.length l.length) l.length xs)
    {A2 : Option Addr} {c2 : Nat} {F : List Nat} (hl2 : Vs.lies w2 (l[j]).kids A2 F) (hnd : F.Nodup) (hF : ∀ c ∈ F, wr.heap.size ≤ c) (hc : (l[j]).kids.length ≤ c2) {u0 u1 u2 u3 u4 : Value}
    (h0 : w2.cell? ⟨w.heap.size, j * 5, none⟩ = some u0) (h1 : w2.cell? ⟨w.heap.size, j * 5 + 1, none⟩ = some u1) (h2 : w2.cell? ⟨w.heap.size, j * 5 + 2, none⟩ = some u2) (h3 : w2.cell? ⟨w.heap.size, j * 5 + 3, none⟩ = some u3) (h4 : w2.cell? ⟨w.heap.size, j * 5 + 4, none⟩ = some u4) (hg : w.heap.size < wr.heap.size := by assumption) :
    To2Rel l w (j + 1) (put5 w2 w.heap.size (j * 5) l[j] A2 c2) := by
  obtain ⟨G, g1, g2, g3⟩ := hrow
  have hGlt := Vs.cells_lt w.heap.size 0 _ G g1
  have hlen : (l.take j).length = j := by rw [List.length_take]; omega
  have blk : ∀ c, c ≠ w.heap.size → (put5 w2 w.heap.size (j * 5) l[j] A2 c2).heap[c]? = w2.heap[c]? := by
    intro c hc
    unfold put5
    rw [Below.heap_setCell _ _ _ _ (by exact hc), Below.heap_setCell _ _ _ _ (by exact hc), Below.heap_setCell _ _ _ _ (by exact hc), Below.heap_setCell _ _ _ _ (by exact hc), Below.heap_setCell _ _ _ _ (by exact hc)]
  refine ⟨put5_own hown, put5_below (hb.trans (hb2.mono hb.size)) (Nat.le_refl _), G ++ F, ?_, ?_, ?_⟩
  · rw [List.take_succ_eq_append_getElem hlt]
    refine Vs.cells_snoc hc (V.lies_kids.2 (Vs.lies_same hl2 ⟨by rw [put5_size]; exact Nat.le_refl _, fun c hcF => blk c (by have := hF c hcF; omega)⟩)) _ 0 G ?_ ?_
    · refine Vs.cells_front _ 0 G g1 (fun q hq => ?_) ⟨by rw [put5_size]; exact hb2.size, fun c hcG => ?_⟩
      · rw [put5_other (.inr (.inl (by show q < j * 5; rw [hlen] at hq; omega)))]
        exact hb2.cell (p := ⟨w.heap.size, q, none⟩) hg
      · rw [blk c (by have := g3 c hcG; omega)]
        exact hb2.block c (hGlt c hcG)
    · rw [hlen, Nat.zero_add]
      exact put5_at h0 h1 h2 h3 h4
  · refine List.nodup_append.2 ⟨g2, hnd, fun a ha b hb' e => ?_⟩
    subst e
    have := hGlt a ha
    have := hF a hb'
    omega
  · intro c hc'
    rcases List.mem_append.1 hc' with h | h
    · exact g3 c h
    · have := hF c h
      omega

set_option maxHeartbeats 1000000 in
theorem to2S_step (l : List V) (hk : ∀ i (h : i < l.length), To2Said l[i]) : To2SSaid l := by
  intro A cap w hl hn hat
  have HK := fun (i : Nat) (h : i < l.length) (A' : Option Addr) (c : Nat) (w' : World) (hat' : Vs.at_ w' 0 w'.heap.size (l[i]).kids A') => hk i h A' c w' (by have := Vs.nodes_get i h; omega) hat'
  have HC := Lib.hid HK
  clear HK hk
  obtain ⟨i0, hi, hz0, hz1, hz2⟩ := info_parts infoV
  go_enter Try.func30, Try.ntmps30
  go_wp2_with (at_make; refine wpList_make_full _ rfl _ _ 27 rfl w.heap.size 29 i0 _ 5 Try.underlying27 hi hz0 hz1 _ _ _ _ l.length rfl rfl (by omega) (by omega) ?b1 ?b2 ?b3 ?_)
  case b1 => rw [hz2]; omega
  case b2 => unfold maxLen; omega
  case b3 => omega
  intro w1 hown1 hg1
  go_wp2_with fail
  go_loopw [4] (fun i wr => ∃ j : Nat, j ≤ l.length ∧ i = .int .i64 j ∧ To2Rel l w j wr) (fun i _ => l.length - (intOf i).toNat)
  case atStart => exact ⟨0, Nat.zero_le _, rfl, ⟨_, hown1⟩, (Below.refl _ _).grown hg1 (Nat.le_refl _) (fun k h => by cases h), [], by simp [Vs.cells], List.nodup_nil, fun c h => by cases h⟩
  case round =>
    obtain ⟨j, hj, rfl, ⟨xs, hown⟩, hb, hrow⟩ := hrel
    have HR := Lib.hid hrow
    have hgr : w.heap.size < wr.heap.size := (hown.lt _ rfl).2
    clear hrow
    by_cases hlt : j < l.length
    · obtain ⟨b, off, A', cap', rfl, g1, g2, g3, ⟨c0, c1, c2, c3, c4⟩, g5⟩ := Vs.at_get j hlt (Vs.at_below hat hb (Nat.le_refl _))
      go_wp2_with fail
      refine (HC.out j hlt A' cap' _ (Vs.at_more (Nat.le_refl _) hb.size _ _ g5)).mono ?_
      rintro e w2 ⟨A2, c2', F, rfl, hc2, hat2, hnd2, hF2, hb2⟩
      unfold V.agg
      have hown2 := own_below hown hb2
      have hxl := hown2.1
      have cq : ∀ q, q < 5 → ∃ u, w2.cell? ⟨w.heap.size, j * 5 + q, none⟩ = some u := fun q hq => ⟨_, (hown2.cellAt (j * 5 + q) (by omega)).trans (List.getElem?_eq_getElem (by omega))⟩
      obtain ⟨u0, d0⟩ := cq 0 (by omega)
      obtain ⟨u1, d1⟩ := cq 1 (by omega)
      obtain ⟨u2, d2⟩ := cq 2 (by omega)
      obtain ⟨u3, d3⟩ := cq 3 (by omega)
      obtain ⟨u4, d4⟩ := cq 4 (by omega)
      simp only [Nat.add_zero] at d0
      have k0 := hown2.frozenAt (j * 5)
      have k1 := hown2.frozenAt (j * 5 + 1)
      have k2 := hown2.frozenAt (j * 5 + 2)
      have k3 := hown2.frozenAt (j * 5 + 3)
      have k4 := hown2.frozenAt (j * 5 + 4)
      have HO := Lib.hid hown2
      have HA := Lib.hid hat2
      have HB2 := Lib.hid hb2
      have HND2 := Lib.hid hnd2
      have HF2 := Lib.hid hF2
      clear c0 c1 c2 c3 c4 cq hxl hown2 hat2 hb2 hown hnd2 hF2
      go_wp2_with fail
      go_roundw
      case rel => exact ⟨j + 1, by omega, by go_num, to2_next hlt hb HR.out HB2.out HO.out HA.out HND2.out HF2.out hc2 d0 d1 d2 d3 d4⟩
      case measure => simp [intOf]; omega
    · obtain rfl : j = l.length := by omega
      go_wp2_with fail
      go_ret
      obtain ⟨G, g1, g2, g3⟩ := HR.out
      rw [List.take_length] at g1
      by_cases h0 : l = []
      · subst h0
        exact ⟨_, _, [], rfl, Nat.le_refl _, .inl ⟨rfl, rfl⟩, List.nodup_nil, (fun c h => by cases h), hb⟩
      · refine ⟨_, _, w.heap.size :: G, rfl, Nat.le_refl _, .inr ⟨_, G, rfl, rfl, (hown.lt _ rfl).2, soft_own hown, g1⟩, List.nodup_cons.2 ⟨fun h => Nat.lt_irrefl _ (g3 _ h), g2⟩, fun c hc => ?_, hb⟩
        rcases List.mem_cons.1 hc with rfl | hc
        · exact Nat.le_refl _
        · exact Nat.le_of_lt (g3 c hc)

theorem to2_all : ∀ (N : Nat), (∀ l : List V, Vs.nodes l ≤ N → To2SSaid l) := by
  intro N
  induction N with
  | zero =>
    intro l h
    refine to2S_step l fun i hi => ?_
    have h1 := Vs.nodes_get i hi
    have h2 := V.nodes_pos l[i]
    omega
  | succ N ih =>
    intro l h
    refine to2S_step l fun i hi => to2_step _ (ih _ ?_)
    have h1 := Vs.nodes_get i hi
    rw [V.nodes_eq] at h1
    omega
theorem toValue2 (v : V) : To2Said v := to2_step v (to2_all _ _ (Nat.le_refl _))

/-- A row whose block is as it was. -/
theorem own_same {w w' : World} {base e size n : Nat} {v : Value} {xs : List Value} (h : w.ownsRow base e size v n xs) (hb : ∀ g, v.ownBlock = some g → w'.heap[g]? = w.heap[g]?) : w'.ownsRow base e size v n xs := by
  refine ⟨h.1, ?_⟩
  rcases h.2 with h' | ⟨g, c, cur, rfl, h1, h2, h3⟩
  · exact .inl h'
  · exact .inr ⟨g, c, cur, rfl, h1, (hb g rfl).trans h2, h3⟩
theorem own_base {w : World} {base base' e size n : Nat} {v : Value} {xs : List Value} (h : w.ownsRow base e size v n xs) (hb : base' ≤ base) : w.ownsRow base' e size v n xs := by
  refine ⟨h.1, ?_⟩
  rcases h.2 with h' | ⟨g, c, cur, rfl, h1, h2⟩
  · exact .inl h'
  · exact .inr ⟨g, c, cur, rfl, Nat.le_trans hb h1, h2⟩
theorem own_touch {w w' : World} {F : List Nat} {base e size n : Nat} {v : Value} {xs : List Value} (h : w.ownsRow base e size v n xs) (ht : Touch F w w') (hF : ∀ c ∈ F, c < base) : w'.ownsRow base e size v n xs :=
  own_same h fun g hg => ht.block g (h.lt g hg).2 (fun hc => by have := hF g hc; have := (h.lt g hg).1; omega)
theorem Touch.below {F : List Nat} {w w' : World} (h : Touch F w w') {B : Nat} (hB : B ≤ w.heap.size) (hF : ∀ c ∈ F, B ≤ c) : Below B w w' :=
  ⟨h.os, h.tape, h.output, h.size, fun k hk => h.block k (Nat.lt_of_lt_of_le hk hB) (fun hc => by have := hF k hc; omega)⟩
end Go.Proofs.Ytlfiaccpihjldaa
