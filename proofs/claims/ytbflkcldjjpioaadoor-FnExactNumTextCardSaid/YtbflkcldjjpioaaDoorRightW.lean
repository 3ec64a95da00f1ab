/-
  The program's isValue and ValueOk.
-/
import Derived.Test.YtbflkcldjjpioaaDoorRightV
import Derived.Test.YtbflkcldjjpioaaDoorRightR
import Derived.Test.YtbflkcldjjpioaaDoorKeepT
import Derived.Shelf.Abstract
import Derived.Deep.RegionHeld3
namespace Go.Proofs.YtbflkcldjjpioaaDoor
open Go.RowKit
set_option linter.unusedVariables false
set_option maxRecDepth 100000
set_option linter.unusedSimpArgs false

def insV (L : Nat) (d : Int) (l : List V) : Prop := Vs.nodes l ≤ L ∧ Vs.rightI (12 - (d + 1)) l
theorem inV_no1 {d : Int} {v : V} : ¬ inV 0 d v := fun h => by have := h.1; have := V.nodes_pos v; omega
theorem inV_no2 {L : Nat} {d : Int} {v : V} (hd : 12 < d) : ¬ inV L d v := fun h => by have := ((V.rightI_eq _ _).1 h.2).1; omega
theorem inV_no3 {L : Nat} {d : Int} {v : V} (hl : L < v.kids.length + 1) : ¬ inV L d v := fun h => by have := h.1; have := V.nodes_eq v; have := Vs.len_nodes v.kids; omega
theorem inV_no4 {L : Nat} {d : Int} {v : V} (hn : ¬ nodeOk v) : ¬ inV L d v := fun h => hn ((V.rightI_eq _ _).1 h.2).2.1
theorem inV_no5 {L : Nat} {d : Int} {v : V} (hn : ¬ kidsI v) : ¬ inV L d v := fun h => hn ((V.rightI_eq _ _).1 h.2).2.2.1
theorem inV_iff {L : Nat} {d : Int} {v : V} (hL : 1 ≤ L) (hd : d ≤ 12) (hn : nodeOk v) (hk : kidsI v) : inV L d v ↔ insV (L - 1) d v.kids := by
  unfold inV insV
  rw [V.rightI_eq, V.nodes_eq, show 12 - d - 1 = 12 - (d + 1) by omega]
  constructor
  · rintro ⟨h1, _, _, _, h2⟩; exact ⟨by omega, h2⟩
  · rintro ⟨h1, h2⟩; exact ⟨by omega, by omega, hn, hk, h2⟩
theorem insV_step {L : Nat} {d : Int} {l : List V} {j : Nat} (hj : j < l.length) (h : insV L d (l.take j)) (hv : inV (L - Vs.nodes (l.take j)) (d + 1) l[j]) : insV L d (l.take (j + 1)) := by
  have h1 := hv.1
  have h2 := h.1
  exact ⟨by rw [Vs.nodes_step l j hj]; omega, Vs.rightI_step _ l j hj h.2 hv.2⟩
theorem insV_no {L : Nat} {d : Int} {l : List V} {j : Nat} (hj : j < l.length) (hv : ¬ inV (L - Vs.nodes (l.take j)) (d + 1) l[j]) : ¬ insV L d l := fun h => hv ⟨by
    have h1 := h.1
    have h2 := Vs.nodes_step l j hj
    have h3 := Vs.nodes_take l (j + 1)
    omega, (Vs.rightI_iff _ _).1 h.2 j hj⟩
/-- The frame of a value's test: its three new blocks, and the count one less. -/
theorem val_frame {w : World} {p : Nat} {tv ti tp : TypeId} {cs : Array Value} {u u' d q : Value} (hB : Blk w p ti #[u]) :
    ∃ w3, w3 = ((((w.alloc (.cells cs tv)).alloc (.cells #[d] ti)).alloc (.cells #[q] tp)).setCell ⟨p, 0, none⟩ u') ∧ Blk w3 w.heap.size tv cs ∧ Blk w3 (w.heap.size + 1) ti #[d] ∧ Blk w3 (w.heap.size + 1 + 1) tp #[q] ∧ Blk w3 p ti #[u'] ∧ Keep (fun _ k => k = p) w w3 := by
  have hlt := hB.lt
  refine ⟨_, rfl, ?_, ?_, ?_, ?_, ?_⟩
  · exact (Below.heap_setCell _ ⟨p, 0, none⟩ u' _ (by simp; omega)).trans (((Blk.new w _ _).alloc _).alloc _)
  · have h := (Blk.new (w.alloc (.cells cs tv)) ti #[d]).alloc (.cells #[q] tp)
    rw [show (w.alloc (.cells cs tv)).heap.size = w.heap.size + 1 by simp] at h
    exact (Below.heap_setCell _ ⟨p, 0, none⟩ u' _ (by simp; omega)).trans h
  · have h := Blk.new ((w.alloc (.cells cs tv)).alloc (.cells #[d] ti)) tp #[q]
    rw [show ((w.alloc (.cells cs tv)).alloc (.cells #[d] ti)).heap.size = w.heap.size + 1 + 1 by simp] at h
    exact (Below.heap_setCell _ ⟨p, 0, none⟩ u' _ (by simp; omega)).trans h
  · exact (((hB.alloc _).alloc _).alloc _).set1 u'
  · exact keep_set1 (keep_alloc1 (keep_alloc1 (keep_alloc1 (Keep.refl w) _) _) _) u'

def ImplValSaid (v : V) : Prop := ∀ (A : Option Addr) (cap L : Nat) (d : Int) (p : Nat) (W w : World), v.weight ≤ 1048576 → L ≤ 300 → 0 ≤ d → d ≤ 13 → Tabs W → Vs.at_ W 0 W.heap.size v.kids A →
    Below W.heap.size W w → W.heap.size ≤ p → Blk w p 3 #[.int .i64 L] →
    Calls Tryd.prog 93 #[v.agg A cap, .int .i64 d, .pointer (some ⟨p, 0, none⟩)] w fun e w' =>
      e = .returned (.bool (decide (inV L d v))) ∧ (inV L d v → Blk w' p 3 #[.int .i64 ((L - v.nodes : Nat) : Int)]) ∧ Keep (fun _ k => k = p) w w'

set_option maxHeartbeats 1000000 in
theorem implKid (v : V) (hk : ImplValSaid v) (A : Option Addr) (cap L : Nat) (d : Int) (p gd gl : Nat) (W w : World) (hw : v.weight ≤ 1048576) (hL : L ≤ 300) (hd0 : 0 ≤ d) (hd1 : d ≤ 12) (hT : Tabs W) (hat : Vs.at_ W 0 W.heap.size v.kids A)
    (hb : Below W.heap.size W w) (hp : W.heap.size ≤ p) (hB : Blk w p 3 #[.int .i64 L]) (hBd : Blk w gd 3 #[.int .i64 d]) (hBl : Blk w gl 94 #[.pointer (some ⟨p, 0, none⟩)]) :
    Calls Tryd.prog 118 #[v.agg A cap, .pointer (some ⟨gd, 0, none⟩), .pointer (some ⟨gl, 0, none⟩)] w fun e w' =>
      e = .returned (.bool (!decide (inV L (d + 1) v))) ∧ (inV L (d + 1) v → Blk w' p 3 #[.int .i64 ((L - v.nodes : Nat) : Int)]) ∧ Keep (fun _ k => k = p) w w' := by
  have hd := hBd.cell 0
  have hl := hBl.cell 0
  have ld := hBd.lt
  have ll := hBl.lt
  have HC := Lib.hid (fun w' h1 h2 => hk A cap L (d + 1) p W w' hw hL (by omega) (by omega) hT hat h1 hp h2)
  have HB := Lib.hid hB
  have HW := Lib.hid hb
  have hbs := hb.size
  clear hk hT hat hB hBd hBl hb
  unfold V.agg
  unfold V.agg at HC
  go_enter Tryd.func118, Tryd.ntmps118
  go_wp2_with fail
  refine (HC.out _ (HW.out.alloc hbs _) (HB.out.alloc _)).mono ?_
  rintro e w1 ⟨rfl, h1, h2⟩
  have H1 := Lib.hid h1
  have H2 := Lib.hid ((keep_alloc1 (Keep.refl w) _).trans h2)
  clear h1 h2
  go_wp2_with fail
  go_ret
  exact ⟨rfl, H1.out, H2.out⟩

theorem kidEnters : ∀ (args : Array Value) (w : World), (callFunc 118 args).run Tryd.prog w = .ok (.enter 118 args) w :=
  enters_of Tryd.func118 (by kernel_rfl) rfl

/-- What holds behind j kids. -/
def KRel (l : List V) (L : Nat) (d : Int) (p : Nat) (w : World) (j : Nat) (wr : World) : Prop :=
  insV L d (l.take j) ∧ Blk wr p 3 #[.int .i64 ((L - Vs.nodes (l.take j) : Nat) : Int)] ∧ Keep (fun _ k => k = p) w wr

set_option maxHeartbeats 2000000 in
theorem implKids_index (l : List V) (hk : ∀ i (h : i < l.length), ImplValSaid l[i]) (A : Option Addr) (cap L : Nat) (d : Int) (p gd gl : Nat) (W w : World) (hw : Vs.weight l ≤ 1048576) (hL : L ≤ 300) (hd0 : 0 ≤ d) (hd1 : d ≤ 12) (hT : Tabs W) (hat : Vs.at_ W 0 W.heap.size l A)
    (hb : Below W.heap.size W w) (hp : W.heap.size ≤ p) (hB : Blk w p 3 #[.int .i64 L]) (hBd : Blk w gd 3 #[.int .i64 d]) (hBl : Blk w gl 94 #[.pointer (some ⟨p, 0, none⟩)]) (hgd : gd ≠ p) (hgl : gl ≠ p) :
    Calls Tryd.prog 139 #[.slice A l.length cap, .func (Fn.func 118) #[] #[.pointer (some ⟨gd, 0, none⟩), .pointer (some ⟨gl, 0, none⟩)]] w fun e w' =>
      ∃ r : Int, e = .returned (.int .i64 r) ∧ ((insV L d l ∧ r = -1 ∧ Blk w' p 3 #[.int .i64 ((L - Vs.nodes l : Nat) : Int)]) ∨ (¬ insV L d l ∧ 0 ≤ r)) ∧ Keep (fun _ k => k = p) w w' := by
  have hl : l.length ≤ 1048576 := by have := Vs.len_le l; omega
  have HC := Lib.hid (fun (i : Nat) (h : i < l.length) (A' : Option Addr) (c M : Nat) (w' : World) (h0 : M ≤ 300) (h1 : Vs.at_ W 0 W.heap.size (l[i]).kids A') (h2 : Below W.heap.size W w') (h3 : Blk w' p 3 #[.int .i64 M]) (h4 : Blk w' gd 3 #[.int .i64 d]) (h5 : Blk w' gl 94 #[.pointer (some ⟨p, 0, none⟩)]) => implKid l[i] (hk i h) A' c M d p gd gl W w' (by have := Vs.weight_get i h; omega) h0 hd0 hd1 hT h1 h2 hp h3 h4 h5)
  have HA := Lib.hid hat
  have HW := Lib.hid hb
  have hbs := hb.size
  have h0 : KRel l L d p w 0 w := ⟨⟨by simp [Vs.nodes], by simp [Vs.rightI]⟩, by simpa [Vs.nodes] using hB, Keep.refl w⟩
  have H0 := Lib.hid h0
  have HBD := Lib.hid hBd
  have HBL := Lib.hid hBl
  have hE := kidEnters
  clear hk hT hat hB hBd hBl hb h0
  go_enter Tryd.func139, Tryd.ntmps139
  go_wp2_with fail
  go_loopw [8] (fun i wr => ∃ j : Nat, j ≤ l.length ∧ i = .int .i64 j ∧ KRel l L d p w j wr) (fun i _ => l.length - (intOf i).toNat)
  case atStart => exact ⟨0, Nat.zero_le _, rfl, H0.out⟩
  case round =>
    obtain ⟨j, hj, rfl, hr⟩ := hrel
    have HR := Lib.hid hr
    clear hr
    by_cases hlt : j < l.length
    · have hbr : Below W.heap.size W wr := HR.out.2.2.below HW.out hbs (fun k hk => by omega)
      obtain ⟨b, off, A', cap', rfl, g1, g2, g3, ⟨c0, c1, c2, c3, c4⟩, g5⟩ := Vs.at_get j hlt (Vs.at_below HA.out hbr (Nat.le_refl _))
      have hg5 := (Vs.at_get j hlt HA.out)
      obtain ⟨b', off', A'', cap'', e1, _, _, _, ⟨_, _, _, _, d4⟩, g6⟩ := hg5
      injection e1 with e1
      injection e1 with e11 e12
      subst e11 e12
      have hsame : some (Value.slice A'' (l[j]).kids.length cap'') = some (Value.slice A' (l[j]).kids.length cap') := by rw [← d4, ← c4]; exact (hbr.cell g2).symm
      injection hsame with hsame
      injection hsame with hs1 hs2 hs3
      subst hs1
      have G6 := Lib.hid g6
      have HBR := Lib.hid hbr
      clear g5 g6 d4 hbr
      go_wp2_with fail
      refine (HC.out j hlt A'' cap' (L - Vs.nodes (l.take j)) wr (by omega) G6.out HBR.out HR.out.2.1 (HR.out.2.2.blk HBD.out hgd).1 (HR.out.2.2.blk HBL.out hgl).1).mono ?_
      rintro e w1 ⟨rfl, h1, h2⟩
      have H1 := Lib.hid h1
      have H2 := Lib.hid (HR.out.2.2.trans h2)
      clear h1 h2 c0 c1 c2 c3 c4
      by_cases hv : inV (L - Vs.nodes (l.take j)) (d + 1) l[j]
      · have HV := Lib.hid hv
        rw [show decide (inV (L - Vs.nodes (l.take j)) (d + 1) l[j]) = true from decide_eq_true hv]
        have hst : KRel l L d p w (j + 1) w1 := ⟨insV_step hlt HR.out.1 hv, by
          have h := H1.out hv
          rw [Vs.nodes_step l j hlt, ← Nat.sub_sub]
          exact h, H2.out⟩
        have HST := Lib.hid hst
        clear hv hst
        go_wp2_with fail
        go_roundw
        case rel => exact ⟨j + 1, by omega, by go_num, HST.out⟩
        case measure => simp [intOf]; omega
      · rw [show decide (inV (L - Vs.nodes (l.take j)) (d + 1) l[j]) = false from decide_eq_false hv]
        have HN := Lib.hid (insV_no hlt hv)
        clear hv
        go_wp2_with fail
        go_ret
        exact ⟨_, rfl, .inr ⟨HN.out, by omega⟩, H2.out⟩
    · obtain rfl : j = l.length := by omega
      go_wp2_with fail
      go_ret
      have h := HR.out
      unfold KRel at h
      rw [List.take_length] at h
      exact ⟨_, rfl, .inl ⟨h.1, rfl, h.2.1⟩, h.2.2⟩
end Go.Proofs.YtbflkcldjjpioaaDoor
