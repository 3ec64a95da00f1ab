/-
  The laws' marks in a tree: they are all put, and whether they are still held.
-/
import Derived.Test.YtbflkcldjjpioaaMarkWalk
namespace Go.Proofs.Ytbflkcldjjpioaa
open Go.RowKit
set_option linter.unusedVariables false
set_option linter.unusedSimpArgs false

theorem markS_any (l : List V) : MarkSaid l := by
  have h : ∀ v : V, MarkSaid v.kids := V.all (fun v hk => mark_step v.kids hk)
  exact h (.mk 0 0 0 ⟨#[]⟩ l)

set_option maxHeartbeats 1000000 in
theorem markValue_any (v : V) (A : Option Addr) (cap k : Nat) (w : World) (F : List Nat) (hk0 : 0 < k) (hkn : k + 4 * Vs.nodes v.kids ≤ 10000000) (hl : Vs.lies w v.kids A F) (hnd : F.Nodup) :
    Calls Try.prog 7 #[v.agg A cap, .int .i64 k] w fun e w' => e = .returned (.int .i64 ((k + 4 * Vs.nodes v.kids : Nat) : Int)) ∧ Vs.lies w' (Vs.mark v.kids k) A F ∧ Touch F w w' := by
  have hlt : ∀ c ∈ F, c < w.heap.size := by
    have h1 : V.lies w (.mk 0 0 0 ⟨#[]⟩ v.kids) A F := V.lies_kids.2 hl
    exact V.lies_lt _ A F h1
  have hA : ∀ o, Vs.lies (w.alloc o) v.kids A F := fun o => Vs.lies_same hl ⟨by simp, fun c hc => Below.heap_alloc w o c (hlt c hc)⟩
  have HA := Lib.hid hA
  have HND := Lib.hid hnd
  clear hA hl hnd hlt
  unfold V.agg
  go_enter Try.func7, Try.ntmps7
  go_wp2_with fail
  refine (markS_any v.kids A _ k _ F hk0 hkn (HA.out _) HND.out).mono ?_
  rintro e w1 ⟨rfl, hl1, ht1⟩
  have HL := Lib.hid hl1
  have HT := Lib.hid ht1
  clear hl1 ht1
  go_wp2_with fail
  go_ret
  exact ⟨rfl, HL.out, (Touch.of_below ((Below.refl _ w).alloc (Nat.le_refl _) _)).trans HT.out⟩

theorem Vs.mark_get (l : List V) (k j : Nat) (h : j < l.length) : (Vs.mark l k)[j]? = some (l[j].mark (k + 4 * Vs.nodes (l.take j))) := by
  have h1 : Vs.mark l k = Vs.markTo l k l.length := (Vs.markTo_all l k).symm
  have h2 : (l.take (j + 1)) ++ l.drop (j + 1) = l := List.take_append_drop _ _
  have h3 : ∀ (a b : List V) (k : Nat), Vs.mark (a ++ b) k = Vs.mark a k ++ Vs.mark b (k + 4 * Vs.nodes a) := by
    intro a
    induction a with
    | nil => intro b k; simp [Vs.mark, Vs.nodes]
    | cons x a ih =>
      intro b k
      simp only [List.cons_append, Vs.mark, ih, Vs.nodes]
      rw [show k + 4 * x.nodes + 4 * Vs.nodes a = k + 4 * (x.nodes + Vs.nodes a) by omega]
  have h4 : Vs.mark l k = Vs.mark (l.take (j + 1)) k ++ Vs.mark (l.drop (j + 1)) (k + 4 * Vs.nodes (l.take (j + 1))) := by rw [← h3, h2]
  rw [h4, List.take_succ_eq_append_getElem h, Vs.mark_snoc]
  have hl : (Vs.mark (l.take j) k).length = j := by rw [Vs.mark_len, List.length_take]; omega
  rw [List.getElem?_append_left (by simp [hl]), List.getElem?_append_right (by omega), hl, Nat.sub_self]
  rfl

def HeldSaid (l : List V) : Prop := ∀ (A : Option Addr) (cap k : Nat) (w : World) (F : List Nat), 0 < k → k + 4 * Vs.nodes l ≤ 10000000 → Vs.lies w (Vs.mark l k) A F →
    Calls Try.prog 18 #[.slice A l.length cap, .int .i64 k] w fun e w' => e = .returned (.int .i64 ((k + 4 * Vs.nodes l : Nat) : Int)) ∧ Below w.heap.size w w'

theorem lies_below {w w' : World} {l : List V} {A : Option Addr} {F : List Nat} (h : Vs.lies w l A F) {B : Nat} (hb : Below B w w') (hB : ∀ c ∈ F, c < B) : Vs.lies w' l A F :=
  Vs.lies_same h ⟨hb.size, fun c hc => hb.block c (hB c hc)⟩
theorem lies_lt {w : World} {l : List V} {A : Option Addr} {F : List Nat} (h : Vs.lies w l A F) : ∀ c ∈ F, c < w.heap.size := by
  have h1 : V.lies w (.mk 0 0 0 ⟨#[]⟩ l) A F := V.lies_kids.2 h
  exact V.lies_lt _ A F h1

/-- One marked value of a row. -/
theorem held_cell {w : World} {l : List V} {k j b : Nat} {G : List Nat} (h : Vs.cells w b 0 (Vs.mark l k) G) (hj : j < l.length) :
    ∃ (A' : Option Addr) (cap : Nat) (Gj : List Nat), w.cell? ⟨b, j * 5, none⟩ = some (.int .i64 ((k + 4 * Vs.nodes (l.take j) : Nat) : Int)) ∧ w.cell? ⟨b, j * 5 + 1, none⟩ = some (.int .i64 (((k + 4 * Vs.nodes (l.take j) : Nat) : Int) + 1)) ∧
      w.cell? ⟨b, j * 5 + 2, none⟩ = some (.int .i64 (((k + 4 * Vs.nodes (l.take j) : Nat) : Int) + 2)) ∧ w.cell? ⟨b, j * 5 + 3, none⟩ = some (.string (mtext (k + 4 * Vs.nodes (l.take j) + 3))) ∧
      w.cell? ⟨b, j * 5 + 4, none⟩ = some (.slice A' (l[j]).kids.length cap) ∧ Vs.lies w (Vs.mark (l[j]).kids (k + 4 * Vs.nodes (l.take j) + 4)) A' Gj := by
  have hl : j < (Vs.mark l k).length := by rw [Vs.mark_len]; exact hj
  have hg : (Vs.mark l k)[j] = l[j].mark (k + 4 * Vs.nodes (l.take j)) := by
    have := Vs.mark_get l k j hj
    rw [List.getElem?_eq_getElem hl] at this
    exact Option.some.inj this
  obtain ⟨A', cap, G1, Gj, G2, h1, h2, h3, h4, _⟩ := Vs.cells_at (Vs.mark l k) 0 G j hl h
  rw [hg, Nat.zero_add] at h3
  rw [hg] at h4
  obtain ⟨c0, c1, c2, c3, c4⟩ := h3
  rw [V.mark_k] at c0
  rw [V.mark_n] at c1
  rw [V.mark_e] at c2
  rw [V.mark_s] at c3
  rw [V.mark_kids, Vs.mark_len] at c4
  have h5 := V.lies_kids.1 h4
  rw [V.mark_kids] at h5
  exact ⟨A', cap, Gj, c0, c1, c2, c3, c4, h5⟩

set_option maxHeartbeats 2000000 in
theorem held_step (l : List V) (hk : ∀ i (h : i < l.length), HeldSaid (l[i]).kids) : HeldSaid l := by
  intro A cap k w F hk0 hkn hl
  have hlen := Vs.len_nodes l
  have HC := Lib.hid hk
  have HLT := Lib.hid (lies_lt hl)
  clear hk
  rcases hl with ⟨h0, rfl⟩ | ⟨b, G, rfl, rfl, hbl, hsf, hcs⟩
  · obtain rfl : l = [] := by
      have h1 := congrArg List.length h0
      rw [Vs.mark_len] at h1
      simpa using h1
    go_enter Try.func18, Try.ntmps18
    go_wp2_with fail
    go_rounds 1
    go_ret
    exact ⟨rfl, Below.refl _ _⟩
  · have HCS := Lib.hid (show Vs.lies w (Vs.mark l k) (some ⟨b, 0, none⟩) (b :: G) from .inr ⟨b, G, rfl, rfl, hbl, hsf, hcs⟩)
    clear hcs hsf
    go_enter Try.func18, Try.ntmps18
    go_wp2_with fail
    go_loopw [1, 5] (fun q i wr => ∃ j : Nat, j ≤ l.length ∧ i = .int .i64 j ∧ q = .int .i64 ((k + 4 * Vs.nodes (l.take j) : Nat) : Int) ∧ Below w.heap.size w wr) (fun _ i _ => l.length - (intOf i).toNat)
    case atStart => exact ⟨0, Nat.zero_le _, rfl, by simp [Vs.nodes], Below.refl _ _⟩
    case round =>
      obtain ⟨j, hj, rfl, rfl, hb⟩ := hrel
      by_cases hlt : j < l.length
      · have hnt := nodes_take_le l j hlt
        rw [V.nodes_eq] at hnt
        have hst := nodes_step l j hlt
        rw [V.nodes_eq] at hst
        have hlr := lies_below HCS.out hb HLT.out
        have hcr : Vs.cells wr b 0 (Vs.mark l k) G := by
          rcases hlr with ⟨h0, _⟩ | ⟨b', G', e1, e2, _, _, h5⟩
          · have := congrArg List.length h0
            rw [Vs.mark_len, List.length_nil] at this
            omega
          · injection e1 with e1
            injection e1 with e1
            subst e1
            injection e2 with _ e2
            subst e2
            exact h5
        obtain ⟨A', cap', Gj, c0, c1, c2, c3, c4, c5⟩ := held_cell hcr hlt
        have HST := Lib.hid hst
        clear hcr hlr hst
        obtain ⟨m, hm⟩ : ∃ m, k + 4 * Vs.nodes (l.take j) = m := ⟨_, rfl⟩
        rw [hm] at c0 c1 c2 c3 c5 ⊢
        have hmb : m + 4 + 4 * Vs.nodes (l[j]).kids ≤ 10000000 := by omega
        have hm0 : 0 < m := by omega
        have HM := Lib.hid hm
        have HC5 := Lib.hid c5
        have hbw := hb.size
        have hcell : ∀ w', Below wr.heap.size wr w' → w'.cell? ⟨b, j * 5 + 3, none⟩ = some (.string (mtext (m + 3))) ∧ w'.cell? ⟨b, j * 5 + 4, none⟩ = some (.slice A' (l[j]).kids.length cap') := fun w' hb' =>
          ⟨(hb'.cell (p := ⟨b, j * 5 + 3, none⟩) (by show b < _; omega)).trans c3, (hb'.cell (p := ⟨b, j * 5 + 4, none⟩) (by show b < _; omega)).trans c4⟩
        have HCL := Lib.hid hcell
        clear hm c5 hcell
        go_wp2_with fail
        go_region_held3 (fun w' => w'.cell? ⟨b, j * 5 + 3, none⟩ = some (.string (mtext (m + 3)))) (first | exact (HCL.out _ hbt2).1 | exact (HCL.out _ ((Below.refl _ _).drew)).1 | exact (HCL.out _ (Below.refl _ _)).1)
          (first | (go_at_call 21; refine (markText (m + 3) wr.drew (by omega) (by omega)).mono ?_; rintro e w1 ⟨rfl, hbt⟩; have hbt2 : Below wr.heap.size wr w1 := (Below.refl _ _).drew.trans hbt))
        clear c0 c1 c2 c3 c4
        have d4 := (HCL.out _ hbt2).2
        have hbw1 := hb.trans (hbt2.mono hb.size)
        go_wp2_with fail
        refine (HC.out j hlt A' cap' (m + 4) w1 Gj (by omega) (by omega) (lies_below HC5.out hbt2 (lies_lt HC5.out))).mono ?_
        rintro e w6 ⟨rfl, hb6⟩
        have hbw6 := hbw1.trans (hb6.mono hbw1.size)
        clear d4
        go_wp2_with fail
        go_roundw
        case rel => exact ⟨j + 1, by omega, by go_num, by rw [HST.out, ← HM.out]; go_num, hbw6⟩
        case measure => simp [intOf]; omega
      · obtain rfl : j = l.length := by omega
        rw [List.take_length] at *
        go_wp2_with fail
        go_ret
        exact ⟨rfl, hb⟩
theorem heldS_any (l : List V) : HeldSaid l := by
  have h : ∀ v : V, HeldSaid v.kids := V.all (fun v hk => held_step v.kids hk)
  exact h (.mk 0 0 0 ⟨#[]⟩ l)
end Go.Proofs.Ytbflkcldjjpioaa
