/-
  The texts on which the last one leans, part 6: RightW, RightX, NumI, Pow, NumT, DrawK, Ctx, CmpL, LawSame, NormI, NumTI, RnT.
-/
import Derived.Test.YtbfddabljkoapaaGreatDoorPLFnNumbere
import Derived.Shelf.Abstract
import Derived.Deep.RegionHeld3
import Derived.Deep.RegionWith
import Derived.Test.YtbfddabljkoapaaGreatDoorShelf
import Derived.Lib.AppendIntMem
import Derived.Lib.LaidU8
import Derived.Lib.SmallJoins
import Derived.Stop.LaidErr
import Derived.StillTailTactics
/-
  The program's isValue and ValueOk.
-/
namespace Go.Proofs.YtbfddabljkoapaaGreatDoor
open Go.RowKit
set_option linter.unusedVariables false
set_option maxRecDepth 100000
set_option linter.unusedSimpArgs false

def insV (L : Nat) (d : Int) (l : List V) : Prop := Vs.nodes l ≤ L ∧ Vs.rightI (12 - (d + 1)) l
theorem inV_no1 {d : Int} {v : V} : ¬ inV 0 d v := fun h => by have := h.1; have := V.nodes_pos v; omega
theorem inV_no2 {L : Nat} {d : Int} {v : V} (hd : 12 < d) : ¬ inV L d v := fun h => by have := ((V.rightI_eq _ _).1 h.2).1; omega
theorem inV_no3 {L : Nat} {d : Int} {v : V} (hl : L < v.kids.length + 1) : ¬ inV L d v := fun h => by have := h.1; have := V.nodes_eq v; have := Vs.len_nodes v.kids; omega
theorem inV_no4 {L : Nat} {d : Int} {v : V} (hn : ¬ nodeOk v) : ¬ inV L d v := fun h => hn ((V.rightI_eq _ _).1 h.2).2.1
theorem inV_no5 {L : Nat} {d : Int} {v : V} (hn : ¬ kidsI v) : ¬ inV L d v := fun h => hn ((V.rightI_eq _ _).1 h.2).2.2.1
theorem inV_iff {L : Nat} {d : Int} {v : V} (hL : 1 ≤ L) (hd : d ≤ 12) (hn : nodeOk v) (hk : kidsI v) : inV L d v ↔ insV (L - 1) d v.kids := by
  unfold inV insV
  rw [V.rightI_eq, V.nodes_eq, show 12 - d - 1 = 12 - (d + 1) by omega]
  constructor
  · rintro ⟨h1, _, _, _, h2⟩; exact ⟨by omega, h2⟩
  · rintro ⟨h1, h2⟩; exact ⟨by omega, by omega, hn, hk, h2⟩
theorem insV_step {L : Nat} {d : Int} {l : List V} {j : Nat} (hj : j < l.length) (h : insV L d (l.take j)) (hv : inV (L - Vs.nodes (l.take j)) (d + 1) l[j]) : insV L d (l.take (j + 1)) := by
  have h1 := hv.1
  have h2 := h.1
  exact ⟨by rw [Vs.nodes_step l j hj]; omega, Vs.rightI_step _ l j hj h.2 hv.2⟩
theorem insV_no {L : Nat} {d : Int} {l : List V} {j : Nat} (hj : j < l.length) (hv : ¬ inV (L - Vs.nodes (l.take j)) (d + 1) l[j]) : ¬ insV L d l := fun h => hv ⟨by
    have h1 := h.1
    have h2 := Vs.nodes_step l j hj
    have h3 := Vs.nodes_take l (j + 1)
    omega, (Vs.rightI_iff _ _).1 h.2 j hj⟩
/-- The frame of a value's test: its three new blocks, and the count one less. -/
theorem val_frame {w : World} {p : Nat} {tv ti tp : TypeId} {cs : Array Value} {u u' d q : Value} (hB : Blk w p ti #[u]) :
    ∃ w3, w3 = ((((w.alloc (.cells cs tv)).alloc (.cells #[d] ti)).alloc (.cells #[q] tp)).setCell ⟨p, 0, none⟩ u') ∧ Blk w3 w.heap.size tv cs ∧ Blk w3 (w.heap.size + 1) ti #[d] ∧ Blk w3 (w.heap.size + 1 + 1) tp #[q] ∧ Blk w3 p ti #[u'] ∧ Keep (fun _ k => k = p) w w3 := by
  have hlt := hB.lt
  refine ⟨_, rfl, ?_, ?_, ?_, ?_, ?_⟩
  · exact (Below.heap_setCell _ ⟨p, 0, none⟩ u' _ (by simp; omega)).trans (((Blk.new w _ _).alloc _).alloc _)
  · have h := (Blk.new (w.alloc (.cells cs tv)) ti #[d]).alloc (.cells #[q] tp)
    rw [show (w.alloc (.cells cs tv)).heap.size = w.heap.size + 1 by simp] at h
    exact (Below.heap_setCell _ ⟨p, 0, none⟩ u' _ (by simp; omega)).trans h
  · have h := Blk.new ((w.alloc (.cells cs tv)).alloc (.cells #[d] ti)) tp #[q]
    rw [show ((w.alloc (.cells cs tv)).alloc (.cells #[d] ti)).heap.size = w.heap.size + 1 + 1 by simp] at h
    exact (Below.heap_setCell _ ⟨p, 0, none⟩ u' _ (by simp; omega)).trans h
  · exact (((hB.alloc _).alloc _).alloc _).set1 u'
  · exact keep_set1 (keep_alloc1 (keep_alloc1 (keep_alloc1 (Keep.refl w) _) _) _) u'

def ImplValSaid (v : V) : Prop := ∀ (A : Option Addr) (cap L : Nat) (d : Int) (p : Nat) (W w : World), v.weight ≤ 1048576 → L ≤ 300 → 0 ≤ d → d ≤ 13 → Tabs W → Vs.at_ W 0 W.heap.size v.kids A →
    Below W.heap.size W w → W.heap.size ≤ p → Blk w p 3 #[.int .i64 L] →
    Calls Tryz.prog 90 #[v.agg A cap, .int .i64 d, .pointer (some ⟨p, 0, none⟩)] w fun e w' =>
      e = .returned (.bool (decide (inV L d v))) ∧ (inV L d v → Blk w' p 3 #[.int .i64 ((L - v.nodes : Nat) : Int)]) ∧ Keep (fun _ k => k = p) w w'

set_option maxHeartbeats 1000000 in
theorem implKid (v : V) (hk : ImplValSaid v) (A : Option Addr) (cap L : Nat) (d : Int) (p gd gl : Nat) (W w : World) (hw : v.weight ≤ 1048576) (hL : L ≤ 300) (hd0 : 0 ≤ d) (hd1 : d ≤ 12) (hT : Tabs W) (hat : Vs.at_ W 0 W.heap.size v.kids A)
    (hb : Below W.heap.size W w) (hp : W.heap.size ≤ p) (hB : Blk w p 3 #[.int .i64 L]) (hBd : Blk w gd 3 #[.int .i64 d]) (hBl : Blk w gl 93 #[.pointer (some ⟨p, 0, none⟩)]) :
    Calls Tryz.prog 132 #[v.agg A cap, .pointer (some ⟨gd, 0, none⟩), .pointer (some ⟨gl, 0, none⟩)] w fun e w' =>
      e = .returned (.bool (!decide (inV L (d + 1) v))) ∧ (inV L (d + 1) v → Blk w' p 3 #[.int .i64 ((L - v.nodes : Nat) : Int)]) ∧ Keep (fun _ k => k = p) w w' := by
  have hd := hBd.cell 0
  have hl := hBl.cell 0
  have ld := hBd.lt
  have ll := hBl.lt
  have HC := Lib.hid (fun w' h1 h2 => hk A cap L (d + 1) p W w' hw hL (by omega) (by omega) hT hat h1 hp h2)
  have HB := Lib.hid hB
  have HW := Lib.hid hb
  have hbs := hb.size
  clear hk hT hat hB hBd hBl hb
  unfold V.agg
  unfold V.agg at HC
  go_enter Tryz.func132, Tryz.ntmps132
  go_wp2_with fail
  refine (HC.out _ (HW.out.alloc hbs _) (HB.out.alloc _)).mono ?_
  rintro e w1 ⟨rfl, h1, h2⟩
  have H1 := Lib.hid h1
  have H2 := Lib.hid ((keep_alloc1 (Keep.refl w) _).trans h2)
  clear h1 h2
  go_wp2_with fail
  go_ret
  exact ⟨rfl, H1.out, H2.out⟩

theorem kidEnters : ∀ (args : Array Value) (w : World), (callFunc 132 args).run Tryz.prog w = .ok (.enter 132 args) w :=
  enters_of Tryz.func132 (by kernel_rfl) rfl

/-- What holds behind j kids. -/
def KRel (l : List V) (L : Nat) (d : Int) (p : Nat) (w : World) (j : Nat) (wr : World) : Prop :=
  insV L d (l.take j) ∧ Blk wr p 3 #[.int .i64 ((L - Vs.nodes (l.take j) : Nat) : Int)] ∧ Keep (fun _ k => k = p) w wr

set_option maxHeartbeats 2000000 in
theorem implKids_index (l : List V) (hk : ∀ i (h : i < l.length), ImplValSaid l[i]) (A : Option Addr) (cap L : Nat) (d : Int) (p gd gl : Nat) (W w : World) (hw : Vs.weight l ≤ 1048576) (hL : L ≤ 300) (hd0 : 0 ≤ d) (hd1 : d ≤ 12) (hT : Tabs W) (hat : Vs.at_ W 0 W.heap.size l A)
    (hb : Below W.heap.size W w) (hp : W.heap.size ≤ p) (hB : Blk w p 3 #[.int .i64 L]) (hBd : Blk w gd 3 #[.int .i64 d]) (hBl : Blk w gl 93 #[.pointer (some ⟨p, 0, none⟩)]) (hgd : gd ≠ p) (hgl : gl ≠ p) :
    Calls Tryz.prog 167 #[.slice A l.length cap, .func (Fn.func 132) #[] #[.pointer (some ⟨gd, 0, none⟩), .pointer (some ⟨gl, 0, none⟩)]] w fun e w' =>
      ∃ r : Int, e = .returned (.int .i64 r) ∧ ((insV L d l ∧ r = -1 ∧ Blk w' p 3 #[.int .i64 ((L - Vs.nodes l : Nat) : Int)]) ∨ (¬ insV L d l ∧ 0 ≤ r)) ∧ Keep (fun _ k => k = p) w w' := by
  have hl : l.length ≤ 1048576 := by have := Vs.len_le l; omega
  have HC := Lib.hid (fun (i : Nat) (h : i < l.length) (A' : Option Addr) (c M : Nat) (w' : World) (h0 : M ≤ 300) (h1 : Vs.at_ W 0 W.heap.size (l[i]).kids A') (h2 : Below W.heap.size W w') (h3 : Blk w' p 3 #[.int .i64 M]) (h4 : Blk w' gd 3 #[.int .i64 d]) (h5 : Blk w' gl 93 #[.pointer (some ⟨p, 0, none⟩)]) => implKid l[i] (hk i h) A' c M d p gd gl W w' (by have := Vs.weight_get i h; omega) h0 hd0 hd1 hT h1 h2 hp h3 h4 h5)
  have HA := Lib.hid hat
  have HW := Lib.hid hb
  have hbs := hb.size
  have h0 : KRel l L d p w 0 w := ⟨⟨by simp [Vs.nodes], by simp [Vs.rightI]⟩, by simpa [Vs.nodes] using hB, Keep.refl w⟩
  have H0 := Lib.hid h0
  have HBD := Lib.hid hBd
  have HBL := Lib.hid hBl
  have hE := kidEnters
  clear hk hT hat hB hBd hBl hb h0
  go_enter Tryz.func167, Tryz.ntmps167
  go_wp2_with fail
  go_loopw [8] (fun i wr => ∃ j : Nat, j ≤ l.length ∧ i = .int .i64 j ∧ KRel l L d p w j wr) (fun i _ => l.length - (intOf i).toNat)
  case atStart => exact ⟨0, Nat.zero_le _, rfl, H0.out⟩
  case round =>
    obtain ⟨j, hj, rfl, hr⟩ := hrel
    have HR := Lib.hid hr
    clear hr
    by_cases hlt : j < l.length
    · have hbr : Below W.heap.size W wr := HR.out.2.2.below HW.out hbs (fun k hk => by omega)
      obtain ⟨b, off, A', cap', rfl, g1, g2, g3, ⟨c0, c1, c2, c3, c4⟩, g5⟩ := Vs.at_get j hlt (Vs.at_below HA.out hbr (Nat.le_refl _))
      have hg5 := (Vs.at_get j hlt HA.out)
      obtain ⟨b', off', A'', cap'', e1, _, _, _, ⟨_, _, _, _, d4⟩, g6⟩ := hg5
      injection e1 with e1
      injection e1 with e11 e12
      subst e11 e12
      have hsame : some (Value.slice A'' (l[j]).kids.length cap'') = some (Value.slice A' (l[j]).kids.length cap') := by rw [← d4, ← c4]; exact (hbr.cell g2).symm
      injection hsame with hsame
      injection hsame with hs1 hs2 hs3
      subst hs1
      have G6 := Lib.hid g6
      have HBR := Lib.hid hbr
      clear g5 g6 d4 hbr
      go_wp2_with fail
      refine (HC.out j hlt A'' cap' (L - Vs.nodes (l.take j)) wr (by omega) G6.out HBR.out HR.out.2.1 (HR.out.2.2.blk HBD.out hgd).1 (HR.out.2.2.blk HBL.out hgl).1).mono ?_
      rintro e w1 ⟨rfl, h1, h2⟩
      have H1 := Lib.hid h1
      have H2 := Lib.hid (HR.out.2.2.trans h2)
      clear h1 h2 c0 c1 c2 c3 c4
      by_cases hv : inV (L - Vs.nodes (l.take j)) (d + 1) l[j]
      · have HV := Lib.hid hv
        rw [show decide (inV (L - Vs.nodes (l.take j)) (d + 1) l[j]) = true from decide_eq_true hv]
        have hst : KRel l L d p w (j + 1) w1 := ⟨insV_step hlt HR.out.1 hv, by
          have h := H1.out hv
          rw [Vs.nodes_step l j hlt, ← Nat.sub_sub]
          exact h, H2.out⟩
        have HST := Lib.hid hst
        clear hv hst
        go_wp2_with fail
        go_roundw
        case rel => exact ⟨j + 1, by omega, by go_num, HST.out⟩
        case measure => simp [intOf]; omega
      · rw [show decide (inV (L - Vs.nodes (l.take j)) (d + 1) l[j]) = false from decide_eq_false hv]
        have HN := Lib.hid (insV_no hlt hv)
        clear hv
        go_wp2_with fail
        go_ret
        exact ⟨_, rfl, .inr ⟨HN.out, by omega⟩, H2.out⟩
    · obtain rfl : j = l.length := by omega
      go_wp2_with fail
      go_ret
      have h := HR.out
      unfold KRel at h
      rw [List.take_length] at h
      exact ⟨_, rfl, .inl ⟨h.1, rfl, h.2.1⟩, h.2.2⟩
end Go.Proofs.YtbfddabljkoapaaGreatDoor

/-
  The program's isValue and ValueOk, whole.
-/
namespace Go.Proofs.YtbfddabljkoapaaGreatDoor
open Go.RowKit
set_option linter.unusedVariables false
set_option maxRecDepth 100000
set_option linter.unusedSimpArgs false

theorem Keep.drewN {p : Nat} {a w : World} (h : Keep (fun _ k => k = p) a w) (n : Nat) : Keep (fun _ k => k = p) a (w.drewN n) := ⟨h.os, h.tape, h.output, h.size, h.block⟩
theorem keep_below {p : Nat} {a w w' : World} (h : Keep (fun _ k => k = p) a w) (hb : Below w.heap.size w w') : Keep (fun _ k => k = p) a w' :=
  ⟨hb.os.trans h.os, hb.tape.trans h.tape, hb.output.trans h.output, Nat.le_trans h.size hb.size, fun k hk hd => ⟨(hb.block k (Nat.lt_of_lt_of_le hk h.size)).trans (h.block k hk hd).1, hd⟩⟩
set_option maxHeartbeats 8000000 in
theorem implVal_step (v : V) (hk : ∀ i (h : i < v.kids.length), ImplValSaid v.kids[i]) : ImplValSaid v := by
  intro A cap L d p W w hw hL hd0 hd1 hT hat hb hp hB
  obtain ⟨hw1, hw2, hw3⟩ := V.weight_kids v
  have hnn : v.nodes ≤ 1048577 := by have := V.nodes_weight v; omega
  have hlt := hB.lt
  have hbs := hb.size
  have hl : v.kids.length ≤ 1048576 := by omega
  have c0 : ((((w.alloc (.cells #[.int .i64 v.k, .int .i64 v.n, .int .i64 v.e, .string v.s, .slice A v.kids.length cap] 43)).alloc (.cells #[.int .i64 d] 3)).alloc (.cells #[.pointer (some ⟨p, 0, none⟩)] 93))).cell? ⟨p, 0, none⟩ = some (.int .i64 L) := (((hB.alloc _).alloc _).alloc _).cell 0
  have f0 : ((((w.alloc (.cells #[.int .i64 v.k, .int .i64 v.n, .int .i64 v.e, .string v.s, .slice A v.kids.length cap] 43)).alloc (.cells #[.int .i64 d] 3)).alloc (.cells #[.pointer (some ⟨p, 0, none⟩)] 93))).frozen? ⟨p, 0, none⟩ = false := (((hB.alloc _).alloc _).alloc _).frozen 0
  have HB := Lib.hid hB
  have HW := Lib.hid hb
  have HT := Lib.hid hT
  have HA := Lib.hid hat
  have HC := Lib.hid hk
  have HF := Lib.hid (val_frame (w := w) (p := p) (tv := 43) (ti := 3) (tp := 93) (cs := #[.int .i64 v.k, .int .i64 v.n, .int .i64 v.e, .string v.s, .slice A v.kids.length cap]) (u' := .int .i64 ((L : Int) - 1)) (d := .int .i64 d) (q := .pointer (some ⟨p, 0, none⟩)) hB)
  clear hB hb hT hat hk
  unfold V.agg
  go_enter Tryz.func90, Tryz.ntmps90
  go_wp2_with fail
  obtain ⟨w3, hw3, Bv, Bd, Bl, Bp, K3⟩ := HF.out
  rw [← hw3]
  clear hw3 HF c0 f0
  have hbw3 : Below W.heap.size W w3 := K3.below HW.out hbs (fun k hk => by omega)
  have HW3 := Lib.hid hbw3
  have HK3 := Lib.hid K3
  have HBV := Lib.hid Bv
  have HBD := Lib.hid Bd
  have HBL := Lib.hid Bl
  have HBP := Lib.hid Bp
  have hs3 := K3.size
  have lv := Bv.lt
  have ld := Bd.lt
  have ll := Bl.lt
  have lp := Bp.lt
  obtain ⟨p0, p1, p2, p3, p4⟩ := Bv.five
  have q0 := Bd.cell 0
  have q1 := Bl.cell 0
  have q2 := Bp.cell 0
  clear K3 Bv Bd Bl Bp hbw3
  by_cases hL0 : L = 0
  · subst hL0
    have g1 : decide (((0 : Nat) : Int) - 1 < 0) = true := decide_eq_true (by omega)
    go_quiet (fail)
    go_wp2_with fail
    go_ret
    exact ⟨ret_bool (decide_eq_false inV_no1).symm, fun h => absurd h inV_no1, Keep.drewN HK3.out _⟩
  have g1 : decide ((L : Int) - 1 < 0) = false := decide_eq_false (by omega)
  by_cases hd : 12 < d
  · have g2 : decide (12 < d) = true := decide_eq_true hd
    go_quiet (fail)
    go_wp2_with fail
    go_ret
    exact ⟨ret_bool (decide_eq_false (inV_no2 hd)).symm, fun h => absurd h (inV_no2 hd), Keep.drewN HK3.out _⟩
  have g2 : decide (12 < d) = false := decide_eq_false hd
  by_cases hkl : (L : Int) - 1 < v.kids.length
  · have g3 : decide ((L : Int) - 1 < v.kids.length) = true := decide_eq_true hkl
    have HNO : Hid (¬ inV L d v) := Lib.hid (inV_no3 (by omega))
    go_quiet (fail)
    go_wp2_with fail
    go_ret
    exact ⟨ret_bool (decide_eq_false HNO.out).symm, fun h => absurd h HNO.out, Keep.drewN HK3.out _⟩
  have g3 : decide ((L : Int) - 1 < v.kids.length) = false := decide_eq_false hkl
  have keep0 : ∀ w' : World, Below w3.heap.size w3 w' → w'.cell? ⟨w.heap.size, 0, none⟩ = some (.int .i64 v.k) ∧ w'.cell? ⟨w.heap.size, 1, none⟩ = some (.int .i64 v.n) ∧ w'.cell? ⟨w.heap.size, 2, none⟩ = some (.int .i64 v.e) ∧ w'.cell? ⟨w.heap.size, 3, none⟩ = some (.string v.s) ∧ w'.cell? ⟨w.heap.size, 4, none⟩ = some (.slice A v.kids.length cap) ∧ w'.cell? ⟨w.heap.size + 1, 0, none⟩ = some (.int .i64 d) ∧ w'.cell? ⟨w.heap.size + 1 + 1, 0, none⟩ = some (.pointer (some ⟨p, 0, none⟩)) ∧ w'.cell? ⟨p, 0, none⟩ = some (.int .i64 ((L : Int) - 1)) ∧ Below w3.heap.size w3 w' := by
    intro w' hb
    obtain ⟨p0, p1, p2, p3, p4⟩ := (HBV.out.below hb lv).five
    exact ⟨p0, p1, p2, p3, p4, (HBD.out.below hb ld).cell 0, (HBL.out.below hb ll).cell 0, (HBP.out.below hb lp).cell 0, hb⟩
  have KE := Lib.hid keep0
  clear keep0
  have hb3 : Below w3.heap.size w3 w3 := Below.refl _ _
  have hL1 : 1 ≤ L := by omega
  by_cases hnode : nodeOk v
  · by_cases hkids : kidsI v
    · have HI := Lib.hid (inV_iff (L := L) (d := d) hL1 (by omega) hnode hkids)
      have HD1 := Lib.hid (decide_eq_true hnode)
      have HD2 := Lib.hid (decide_eq_true hkids)
      clear hnode hkids
      go_region_held3 (fun w' => w'.cell? ⟨w.heap.size, 0, none⟩ = some (.int .i64 v.k) ∧ w'.cell? ⟨w.heap.size, 1, none⟩ = some (.int .i64 v.n) ∧ w'.cell? ⟨w.heap.size, 2, none⟩ = some (.int .i64 v.e) ∧ w'.cell? ⟨w.heap.size, 3, none⟩ = some (.string v.s) ∧ w'.cell? ⟨w.heap.size, 4, none⟩ = some (.slice A v.kids.length cap) ∧ w'.cell? ⟨w.heap.size + 1, 0, none⟩ = some (.int .i64 d) ∧ w'.cell? ⟨w.heap.size + 1 + 1, 0, none⟩ = some (.pointer (some ⟨p, 0, none⟩)) ∧ w'.cell? ⟨p, 0, none⟩ = some (.int .i64 ((L : Int) - 1)) ∧ Below w3.heap.size w3 w') (first | exact KE.out _ hb6 | exact KE.out _ hb5 | exact KE.out _ hb3.drew | exact KE.out _ hb3)
        (first
        | (have hgate := hb5; clear hgate; go_at_call 130; refine (implKids v A cap w5 hnn (Vs.at_more (Nat.le_refl _) (Nat.le_trans (Nat.le_trans hbs hs3) hb5.size) _ _ (Vs.at_below HA.out (HW3.out.trans (hb5.mono (Nat.le_trans hbs hs3))) (Nat.le_refl _)))).mono ?_; rintro e w6 ⟨rfl, hb6'⟩; have hb6 := hb5.trans (hb6'.mono hb5.size); rw [HD2.out])
        | (go_at_call 129; refine (implNode v A cap w3.drew (by omega) (HT.out.below HW3.out.drew)).mono ?_; rintro e w5 ⟨rfl, hb5'⟩; have hb5 : Below w3.heap.size w3 w5 := hb3.drew.trans hb5'; rw [HD1.out]))
      obtain ⟨p0, p1, p2, p3, p4, q0, q1, q2, _⟩ := KE.out _ hb6
      have hb6W : Below W.heap.size W w6 := HW3.out.trans (hb6.mono (Nat.le_trans hbs hs3))
      have HB6 := Lib.hid hb6
      have HB6W := Lib.hid hb6W
      clear KE hb5 hb5' hb6' hb6 hb6W hb3
      go_wp2_with (go_at_call 131; go_in)
      refine (implKids_index v.kids HC.out A cap (L - 1) d p (w.heap.size + 1) (w.heap.size + 1 + 1) W w6 (by omega) (by omega) hd0 (by omega) HT.out HA.out HB6W.out hp (by have h := HBP.out.below HB6.out lp; rw [show (L : Int) - 1 = ((L - 1 : Nat) : Int) by omega] at h; exact h) (HBD.out.below HB6.out ld) (HBL.out.below HB6.out ll) (by omega) (by omega)).mono ?_
      rintro e w7 ⟨r, rfl, h1, h2⟩
      have HK7 := Lib.hid ((keep_below HK3.out HB6.out).trans h2)
      clear h2
      rcases h1 with ⟨hy, rfl, hblk⟩ | ⟨hn, h0⟩
      · have HY := Lib.hid (HI.out.2 hy)
        have HBK := Lib.hid hblk
        clear hy hblk
        go_wp2_with fail
        go_ret
        exact ⟨ret_bool (decide_eq_true HY.out).symm, fun _ => by
          have h := HBK.out
          rw [show L - 1 - Vs.nodes v.kids = L - v.nodes by rw [V.nodes_eq]; omega] at h
          exact h, HK7.out⟩
      · have HN := Lib.hid (fun h => hn (HI.out.1 h))
        clear hn
        go_wp2_with fail
        go_ret
        exact ⟨ret_bool (decide_eq_false HN.out).symm, fun h => absurd h HN.out, HK7.out⟩
    · have HN := Lib.hid (inV_no5 (L := L) (d := d) hkids)
      have HD1 := Lib.hid (decide_eq_true hnode)
      have HD2 := Lib.hid (decide_eq_false hkids)
      clear hnode hkids
      go_region_held3 (fun w' => w'.cell? ⟨w.heap.size, 0, none⟩ = some (.int .i64 v.k) ∧ w'.cell? ⟨w.heap.size, 1, none⟩ = some (.int .i64 v.n) ∧ w'.cell? ⟨w.heap.size, 2, none⟩ = some (.int .i64 v.e) ∧ w'.cell? ⟨w.heap.size, 3, none⟩ = some (.string v.s) ∧ w'.cell? ⟨w.heap.size, 4, none⟩ = some (.slice A v.kids.length cap) ∧ w'.cell? ⟨w.heap.size + 1, 0, none⟩ = some (.int .i64 d) ∧ w'.cell? ⟨w.heap.size + 1 + 1, 0, none⟩ = some (.pointer (some ⟨p, 0, none⟩)) ∧ w'.cell? ⟨p, 0, none⟩ = some (.int .i64 ((L : Int) - 1)) ∧ Below w3.heap.size w3 w') (first | exact KE.out _ hb6 | exact KE.out _ hb5 | exact KE.out _ hb3.drew | exact KE.out _ hb3)
        (first
        | (have hgate := hb5; clear hgate; go_at_call 130; refine (implKids v A cap w5 hnn (Vs.at_more (Nat.le_refl _) (Nat.le_trans (Nat.le_trans hbs hs3) hb5.size) _ _ (Vs.at_below HA.out (HW3.out.trans (hb5.mono (Nat.le_trans hbs hs3))) (Nat.le_refl _)))).mono ?_; rintro e w6 ⟨rfl, hb6'⟩; have hb6 := hb5.trans (hb6'.mono hb5.size); rw [HD2.out])
        | (go_at_call 129; refine (implNode v A cap w3.drew (by omega) (HT.out.below HW3.out.drew)).mono ?_; rintro e w5 ⟨rfl, hb5'⟩; have hb5 : Below w3.heap.size w3 w5 := hb3.drew.trans hb5'; rw [HD1.out]))
      have HB6 := Lib.hid hb6
      clear KE hb5 hb5' hb6' hb6 hb3
      go_wp2_with fail
      go_ret
      exact ⟨ret_bool (decide_eq_false HN.out).symm, fun h => absurd h HN.out, keep_below HK3.out HB6.out⟩
  · have HN := Lib.hid (inV_no4 (L := L) (d := d) hnode)
    have HD1 := Lib.hid (decide_eq_false hnode)
    clear hnode
    go_region_with (go_at_call 129; refine (implNode v A cap w3.drew (by omega) (HT.out.below HW3.out.drew)).mono ?_; rintro e w5 ⟨rfl, hb5'⟩; have hb5 : Below w3.heap.size w3 w5 := hb3.drew.trans hb5'; rw [HD1.out])
    all_goals
      have HB6 := Lib.hid hb5
      clear KE hb5 hb5' hb3
      go_wp2_with fail
      go_ret
      exact ⟨ret_bool (decide_eq_false HN.out).symm, fun h => absurd h HN.out, keep_below HK3.out HB6.out⟩
theorem implVal : ∀ v, ImplValSaid v := V.all implVal_step

set_option maxHeartbeats 1000000 in
theorem implValueOk (v : V) (A : Option Addr) (cap : Nat) (w : World) (hw : v.weight ≤ 1048576) (hT : Tabs w) (hat : Vs.at_ w 0 w.heap.size v.kids A) :
    Calls Tryz.prog 41 #[v.agg A cap] w fun e w' => e = .returned (.bool (decide (okV v))) ∧ Below w.heap.size w w' := by
  have HC := Lib.hid (fun (p : Nat) (w' : World) h1 (h2 : w.heap.size ≤ p) (h3 : Blk w' p 3 #[.int .i64 ((300 : Nat) : Int)]) => implVal v A cap 300 0 p w w' hw (Nat.le_refl _) (Int.le_refl _) (by omega) hT hat h1 h2 h3)
  have HI := Lib.hid (inV_okV v)
  clear hT hat
  unfold V.agg at HC
  unfold V.agg
  go_enter Tryz.func41, Tryz.ntmps41
  go_wp2_with fail
  have hb : Below w.heap.size w ((w.alloc (.cells #[.int .i64 v.k, .int .i64 v.n, .int .i64 v.e, .string v.s, .slice A v.kids.length cap] 43)).alloc (.cells #[.int .i64 300] 3)) := ((Below.refl _ w).alloc (Nat.le_refl _) _).alloc (by simp) _
  have hB := Blk.new (w.alloc (.cells #[.int .i64 v.k, .int .i64 v.n, .int .i64 v.e, .string v.s, .slice A v.kids.length cap] 43)) 3 #[.int .i64 300]
  refine (HC.out (w.heap.size + 1) _ hb (by omega) (by simpa using hB)).mono ?_
  rintro e w1 ⟨rfl, _, hk⟩
  have hb1 := hk.below hb (by simp; omega) (fun k hk => by omega)
  go_wp2_with fail
  go_ret
  exact ⟨ret_bool (decide_eq_decide.2 HI.out), hb1⟩
end Go.Proofs.YtbfddabljkoapaaGreatDoor

/-
  The program's test of a number, and Whole.
-/
namespace Go.Proofs.YtbfddabljkoapaaGreatDoor
open Go.RowKit
set_option linter.unusedVariables false
set_option linter.unusedSimpArgs false
set_option maxRecDepth 100000

set_option maxHeartbeats 2000000 in
theorem implIs (v : V) (A : Option Addr) (cap : Nat) (w : World) (hw : v.weight ≤ 1048576) (hT : Tabs w) (hat : Vs.at_ w 0 w.heap.size v.kids A) :
    Calls Tryz.prog 77 #[v.agg A cap] w fun e w' => e = .returned (.bool (decide (numOk v))) ∧ Below w.heap.size w w' := by
  have HA := Lib.hid hat
  have HT := Lib.hid hT
  clear hat hT
  rcases (show ((v.k == 3) = true ∧ (v.k = 3 ∨ v.k = 4)) ∨ ((v.k == 3) = false ∧ (v.k == 4) = true ∧ (v.k = 3 ∨ v.k = 4)) ∨ ((v.k == 3) = false ∧ (v.k == 4) = false ∧ ¬ (v.k = 3 ∨ v.k = 4)) by
    by_cases h3 : v.k = 3
    · exact .inl ⟨by rw [h3]; rfl, .inl h3⟩
    · by_cases h4 : v.k = 4
      · exact .inr (.inl ⟨by simpa using h3, by rw [h4]; rfl, .inr h4⟩)
      · exact .inr (.inr ⟨by simpa using h3, by simpa using h4, fun h => h.elim h3 h4⟩)) with ⟨q3, hk⟩ | ⟨q3, q4, hk⟩ | ⟨q3, q4, hk⟩
  iterate 2
    have HK : Hid (okV v ↔ numOk v) := Lib.hid ⟨fun h => ⟨hk, h⟩, fun h => h.2⟩
    clear hk
    unfold V.agg
    go_enter Tryz.func77, Tryz.ntmps77
    go_wp2_with fail
    have b0 : Below w.heap.size w (w.alloc (.cells #[.int .i64 v.k, .int .i64 v.n, .int .i64 v.e, .string v.s, .slice A v.kids.length cap] 43)) := (Below.refl _ w).alloc (Nat.le_refl _) _
    refine (implValueOk v A cap _ hw (HT.out.below b0) (Vs.at_more (Nat.le_refl _) b0.size _ _ (Vs.at_below HA.out b0 (Nat.le_refl _)))).mono ?_
    rintro e w1 ⟨rfl, hb1⟩
    go_wp2_with fail
    go_ret
    exact ⟨ret_bool (decide_eq_decide.2 HK.out), b0.trans (hb1.mono b0.size)⟩
  have HN : Hid (¬ numOk v) := Lib.hid (fun h => hk h.1)
  clear hk
  unfold V.agg
  go_enter Tryz.func77, Tryz.ntmps77
  go_wp2_with fail
  go_ret
  exact ⟨ret_bool (decide_eq_false HN.out).symm, (Below.refl _ _).alloc (Nat.le_refl _) _⟩
theorem cutD_small {n : Int} (h : -9223372036854775808 ≤ n ∧ n ≤ 9223372036854775807) (hm : -9223372036854775808 < n) (j : Nat) : -9223372036854775808 < cutD n j ∧ cutD n j ≤ 9223372036854775807 := by
  unfold cutD
  by_cases h0 : 0 ≤ n
  · rw [if_pos h0]
    have h1 := pow_div_small h j
    have h2 : 0 ≤ n / 10 ^ j := Int.ediv_nonneg h0 (Int.le_of_lt (Int.pow_pos (by omega)))
    omega
  · rw [if_neg h0]
    have h1 := pow_div_small (n := -n) (by omega) j
    have h2 : 0 ≤ (-n) / 10 ^ j := Int.ediv_nonneg (by omega) (Int.le_of_lt (Int.pow_pos (by omega)))
    omega
theorem cutD_zero (n : Int) : cutD n 0 = n := by
  unfold cutD
  rw [Int.pow_zero]
  split <;> simp
theorem cutD_range {n : Int} (h : -9223372036854775808 ≤ n ∧ n ≤ 9223372036854775807) (j : Nat) : -9223372036854775808 ≤ cutD n j ∧ cutD n j ≤ 9223372036854775807 := by
  by_cases hm : -9223372036854775808 < n
  · have := cutD_small h hm j; omega
  · obtain rfl : n = -9223372036854775808 := by omega
    cases j with
    | zero => rw [cutD_zero]; omega
    | succ j =>
      unfold cutD
      rw [if_neg (by omega)]
      have h2 : (0 : Int) < 10 ^ j := Int.pow_pos (by omega)
      have h3 : (10 : Int) ^ (j + 1) = 10 ^ j * 10 := Int.pow_succ _ _
      have h5 : (- -9223372036854775808 : Int) / 10 ^ (j + 1) = 9223372036854775808 / 10 / 10 ^ j := by
        rw [h3, Int.mul_comm, ← Int.ediv_ediv_of_nonneg (by omega)]
        rfl
      have h4 := pow_div_small (n := 9223372036854775808 / 10) (by omega) j
      have h6 : (0 : Int) ≤ 9223372036854775808 / 10 / 10 ^ j := Int.ediv_nonneg (by omega) (Int.le_of_lt h2)
      rw [h5]
      omega

set_option maxHeartbeats 8000000 in
theorem implWhole (v : V) (A : Option Addr) (cap : Nat) (w : World) (hf : v.fits) (hw : v.weight ≤ 1048576) (hT : Tabs w) (hat : Vs.at_ w 0 w.heap.size v.kids A) :
    Calls Tryz.prog 46 #[v.agg A cap] w fun e w' => e = .returned (.tuple #[.int .i64 (wholeN v), .bool (wholeB v)]) ∧ Below w.heap.size w w' := by
  have HA := Lib.hid hat
  have HT := Lib.hid hT
  have hf3 := (V.fits_eq v).1 hf
  have hn := hf3.2.2.2.2.1
  have he := hf3.2.2.2.2.2
  unfold inI at hn he
  clear hat hf hf3 hT
  unfold V.agg
  go_enter Tryz.func46, Tryz.ntmps46
  go_wp2_with fail
  have b0 : Below w.heap.size w (w.alloc (.cells #[.int .i64 v.k, .int .i64 v.n, .int .i64 v.e, .string v.s, .slice A v.kids.length cap] 43)) := (Below.refl _ w).alloc (Nat.le_refl _) _
  refine (implIs v A cap _ hw (HT.out.below b0) (Vs.at_more (Nat.le_refl _) b0.size _ _ (Vs.at_below HA.out b0 (Nat.le_refl _)))).mono ?_
  rintro e w1 ⟨rfl, hb1⟩
  obtain ⟨p0, p1, p2, p3, p4⟩ := ((Blk.new w 43 #[.int .i64 v.k, .int .i64 v.n, .int .i64 v.e, .string v.s, .slice A v.kids.length cap]).below hb1 (by simp)).five
  have b1 : Below w.heap.size w w1 := b0.trans (hb1.mono b0.size)
  clear b0 hb1
  by_cases hnum : numOk v
  · rw [show decide (numOk v) = true from decide_eq_true hnum]
    by_cases hpos : 0 < v.e
    · have q : decide (0 < v.e) = true := decide_eq_true hpos
      have HR := Lib.hid (whole_no (v := v) (fun h => h.2 hpos))
      clear hnum
      go_wp2_with fail
      go_ret2
      exact ⟨tup_ib HR.out.2.symm HR.out.1.symm, b1⟩
    · have q : decide (0 < v.e) = false := decide_eq_false hpos
      have HR := Lib.hid (whole_yes (v := v) ⟨hnum, hpos⟩)
      have hle := okV_leaf hnum
      by_cases h3 : v.k = 3
      · have q3 : (v.k == 3) = true := by rw [h3]; rfl
        have HE := Lib.hid (hle.2.2.1 h3)
        clear hnum hle h3
        go_wp2_with fail
        go_ret2
        exact ⟨tup_ib (by rw [HR.out.2, HE.out]; simp) HR.out.1.symm, b1⟩
      · have h4 : v.k = 4 := hnum.1.resolve_left h3
        have q3 : (v.k == 3) = false := by simpa using h3
        have hdec := hle.2.2.2 h4
        have hlow : -20 ≤ v.e := hdec.1
        have HNZ := Lib.hid hdec
        obtain ⟨K, hK⟩ : ∃ K : Nat, (-v.e).toNat = K := ⟨_, rfl⟩
        have hK1 : v.e ≤ -(K : Int) := by omega
        have hK2 : -(K : Int) ≤ v.e := by omega
        have hK20 : K ≤ 20 := by omega
        rw [hK] at HR
        have HK := Lib.hid hK
        clear hnum hle hK hdec h3 h4
        go_wp2_with fail
        go_loop [4, 25] (fun z y => ∃ j : Nat, j ≤ K ∧ z = .int .i64 (cutD v.n j) ∧ y = .int .i64 (j : Int)) (fun _ y => K - (intOf y).toNat)
        case atStart => exact ⟨0, Nat.zero_le _, by rw [cutD_zero], by simp⟩
        case round =>
          obtain ⟨j, hj, rfl, rfl⟩ := hrel
          by_cases hlt : j < K
          · have hst := cutD_step v.n j
            have hxr := cutD_range hn j
            have hyr := cutD_range hn (j + 1)
            rw [← hst] at hyr
            obtain ⟨x, hx⟩ : ∃ x, cutD v.n j = x := ⟨_, rfl⟩
            rw [hx] at hst hxr hyr ⊢
            have HST := Lib.hid hst
            have qe : decide ((j : Int) < -v.e) = true := decide_eq_true (by omega)
            clear hst hx
            go_wp2_with fail
            go_round
            case rel => exact ⟨j + 1, by omega, congrArg (Value.int .i64) HST.out, by go_num⟩
            case measure => simp [intOf]; omega
          · obtain rfl : j = K := by omega
            have qe : decide ((j : Int) < -v.e) = false := decide_eq_false (by omega)
            have hxr := cutD_range hn j
            have HD := Lib.hid (show (1 ≤ j) → (if v.n < 0 then cutD v.n j - 1 else cutD v.n j) = v.n / 10 ^ j from fun h => dec_floor h HNZ.out.2.2.2.2.2.1)
            have hj1 : 1 ≤ j := by have := HNZ.out.2.2.1; omega
            have hxs := cutD_small hn (by have := HNZ.out.2.2.2.1; omega) j
            obtain ⟨x, hx⟩ : ∃ x, cutD v.n j = x := ⟨_, rfl⟩
            rw [hx] at hxr hxs HD ⊢
            clear hx
            by_cases hneg : v.n < 0
            · have qn : decide (v.n < 0) = true := decide_eq_true hneg
              have HF := Lib.hid (HD.out hj1)
              rw [if_pos hneg] at HF
              clear hneg
              go_wp2_with fail
              go_ret2
              exact ⟨tup_ib (HF.out.trans HR.out.2.symm) HR.out.1.symm, b1⟩
            · have qn : decide (v.n < 0) = false := decide_eq_false hneg
              have HF := Lib.hid (HD.out hj1)
              rw [if_neg hneg] at HF
              clear hneg
              go_wp2_with fail
              go_ret2
              exact ⟨tup_ib (HF.out.trans HR.out.2.symm) HR.out.1.symm, b1⟩
  · rw [show decide (numOk v) = false from decide_eq_false hnum]
    have HR := Lib.hid (whole_no (v := v) (fun h => hnum h.1))
    clear hnum
    go_wp2_with fail
    go_ret2
    exact ⟨tup_ib HR.out.2.symm HR.out.1.symm, b1⟩
end Go.Proofs.YtbfddabljkoapaaGreatDoor

/-
  DecText of the program; what the library's numbers ask of the world.
-/
namespace Go.Proofs.YtbfddabljkoapaaGreatDoor
open Go.RowKit
set_option linter.unusedVariables false

theorem gPow : Tryz.prog.globalNamed "internal/strconv.uint64pow10" = some 5 := by kernel_rfl
/-- The table of the powers of ten lies as it was laid. -/
def Pow10 (w : World) : Prop := Lib.TabIs Tryz.prog w "internal/strconv.uint64pow10" .u64 Lib.pow10Tab
theorem Pow10.below {w w' : World} {B : Nat} (h : Pow10 w) (hb : Below B w w') (hB : w.heap.size ≤ B) : Pow10 w' := Go.Joins.tab_stays gPow h hb hB
theorem powD : (Rows.laid_internal_strconv_uint64pow10 : DataW Unit) = Lib.tabData .u64 Lib.pow10Tab := by kernel_rfl
theorem gPowT : (Tryz.prog.globals[5]?).map (·.type) = some 181 := by kernel_rfl
theorem pow_of_laid {l : List (String × DataW Unit)} {W : World} (h : laidMet Tryz.prog l W) (hm : ("internal/strconv.uint64pow10", Rows.laid_internal_strconv_uint64pow10) ∈ l) : Pow10 W := by
  obtain ⟨g', t', cs, fuel, p, hg', ht', hvar, hd⟩ := Lib.laidMet.reads h hm
  obtain rfl := Option.some.inj (gPow.symm.trans hg')
  obtain rfl := Option.some.inj (gPowT.symm.trans ht')
  rw [powD] at hd
  have hc := Lib.cells_of_tab Tryz.underlying181 Tryz.underlying135 (by kernel_rfl) (by kernel_rfl) hd
  show World.var? _ _ _ = _
  rw [hvar, ← hc]

theorem implDecText (n : Int) (w : World) (h : -9223372036854775808 ≤ n ∧ n ≤ 9223372036854775807) (hP : Pow10 w) :
    Calls Tryz.prog 24 #[.int .i64 n] w fun e w' => e = .returned (.string (str (Lib.itoa n))) ∧ Below w.heap.size w w' := by
  have HP := Lib.hid hP
  clear hP
  go_enter Tryz.func24, Tryz.ntmps24
  go_wp2_with fail
  refine (Tryz.strconv_Itoa n h.1 h.2 w HP.out).mono ?_
  rintro e w1 ⟨rfl, k, os, rfl⟩
  go_wp2_with fail
  go_ret
  exact ⟨rfl, Lib.below_grow _ _ (Nat.le_refl _) _ _⟩
end Go.Proofs.YtbfddabljkoapaaGreatDoor

/-
  NumText of the reference.
-/
namespace Go.Proofs.YtbfddabljkoapaaGreatDoor
open Go.RowKit
set_option linter.unusedVariables false
set_option linter.unusedSimpArgs false
set_option maxRecDepth 100000

/-- Digits with zeros ahead, more of them than k. -/
def padL (D : List UInt8) (k : Nat) : List UInt8 := List.replicate (k + 1 - D.length) 48 ++ D
theorem padL_done {D : List UInt8} {k i : Nat} (h : i = k + 1 - D.length) : padL D k = List.replicate i 48 ++ D := by rw [padL, h]
theorem padL_len (D : List UInt8) (k : Nat) : k < (padL D k).length := by rw [padL, List.length_append, List.length_replicate]; omega
theorem padL_le (D : List UInt8) (k : Nat) : (padL D k).length ≤ k + 1 + D.length := by rw [padL, List.length_append, List.length_replicate]; omega
/-- A text with a point ahead of its last digits. -/
def cutT (P : ByteArray) (e : Int) : ByteArray := P.extract 0 ((P.size : Int) + e).toNat ++ ((⟨#[46]⟩ : ByteArray) ++ P.extract ((P.size : Int) + e).toNat P.size)
noncomputable def numTextB (v : V) : ByteArray :=
  if okV v then
    if v.k = 3 then str (Lib.itoa v.n)
    else if v.k = 4 then
      if 0 < v.e then str (Lib.itoa v.n) ++ ((⟨#[101]⟩ : ByteArray) ++ str (Lib.itoa v.e))
      else if v.n < 0 then (⟨#[45]⟩ : ByteArray) ++ cutT (str (padL (Lib.decDigits v.n.natAbs) (-v.e).toNat)) v.e
      else cutT (str (padL (Lib.decDigits v.n.natAbs) (-v.e).toNat)) v.e
    else ⟨#[]⟩
  else ⟨#[]⟩
theorem str_size (l : List UInt8) : (str l).size = l.length := by simp [str, ByteArray.size]

set_option maxHeartbeats 2000000 in
theorem specPad (D : List UInt8) (K : Nat) (w : World) (hK : K ≤ 20) (hD : D.length ≤ 19) :
    Calls Tryz.prog 89 #[.string (str D), .int .i64 (K : Int)] w fun e w' => e = .returned (.string (str (padL D K))) ∧ w' = w := by
  go_enter Tryz.func89, Tryz.ntmps89
  go_wp2_with fail
  go_loop [0] (fun z => ∃ i : Nat, i ≤ K + 1 - D.length ∧ z = .string (str (List.replicate i 48 ++ D))) (fun z => (match z with | .string s => K + 1 - s.size | _ => 0))
  case atStart => exact ⟨0, Nat.zero_le _, by simp⟩
  case round =>
    obtain ⟨i, hi, rfl⟩ := hrel
    have hsz : (str (List.replicate i 48 ++ D)).size = i + D.length := by rw [str_size]; simp
    have HN : Hid ((⟨#[48]⟩ : ByteArray) ++ str (List.replicate i 48 ++ D) = str (List.replicate (i + 1) 48 ++ D)) := Lib.hid (by rw [List.replicate_succ]; rfl)
    have HN2 : Hid ((str (List.replicate (i + 1) 48 ++ D)).size = i + 1 + D.length) := Lib.hid (by rw [str_size]; simp)
    have HP := Lib.hid (padL_done (D := D) (k := K) (i := i))
    obtain ⟨s, hs⟩ : ∃ s, str (List.replicate i 48 ++ D) = s := ⟨_, rfl⟩
    have HS := Lib.hid hs
    rw [hs] at hsz HN ⊢
    clear hs
    by_cases hlt : s.size ≤ K
    · have q : decide ((s.size : Int) ≤ (K : Int)) = true := decide_eq_true (by omega)
      have hsm : s.size < 100 := by omega
      go_wp2_with fail
      go_round
      case rel => exact ⟨i + 1, by omega, congrArg Value.string HN.out⟩
      case measure => show K + 1 - _ < K + 1 - s.size; rw [HN.out, HN2.out]; omega
    · have q : decide ((s.size : Int) ≤ (K : Int)) = false := decide_eq_false (by omega)
      have hsm : s.size < 100 := by omega
      go_wp2_with fail
      go_ret
      exact ⟨congrArg (fun x => Ending.returned (.string x)) ((congrArg str (HP.out (by omega))).trans HS.out).symm, rfl⟩

theorem itoa_cut {n : Int} (h : n < 0) : (str (Lib.itoa n)).extract 1 (str (Lib.itoa n)).size = str (Lib.decDigits n.natAbs) := by
  obtain ⟨u, rfl⟩ : ∃ u : Nat, n = -(u : Int) := ⟨n.natAbs, by omega⟩
  rw [itoa_neg u (by omega), Int.natAbs_neg, Int.natAbs_natCast]
  apply ByteArray.ext
  apply Array.ext'
  simp [str, ByteArray.size]
theorem itoa_nat {n : Int} (h : ¬ n < 0) : str (Lib.itoa n) = str (Lib.decDigits n.natAbs) := by
  obtain ⟨u, rfl⟩ := Int.eq_ofNat_of_zero_le (show 0 ≤ n by omega)
  rw [itoa_pos, Int.natAbs_natCast]
theorem itoa_size {n : Int} (h : -9223372036854775808 ≤ n ∧ n ≤ 9223372036854775807) : 1 ≤ (str (Lib.itoa n)).size ∧ (str (Lib.itoa n)).size ≤ 20 := by
  by_cases h0 : n < 0
  · obtain ⟨u, rfl⟩ : ∃ u : Nat, n = -(u : Int) := ⟨n.natAbs, by omega⟩
    have := dec_len u (by omega)
    rw [itoa_neg u (by omega), str_size, List.length_cons]
    omega
  · rw [itoa_nat h0, str_size]
    have := dec_len n.natAbs (by omega)
    have := dec_ne n.natAbs
    have : (Lib.decDigits n.natAbs).length ≠ 0 := fun h => this (List.length_eq_zero_iff.1 h)
    omega

theorem assoc3 (a b c : ByteArray) : a ++ b ++ c = a ++ (b ++ c) := ByteArray.append_assoc
theorem cut_join (x P : ByteArray) (e : Int) : x ++ P.extract 0 ((P.size : Int) + e).toNat ++ (⟨#[46]⟩ : ByteArray) ++ P.extract ((P.size : Int) + e).toNat P.size = x ++ cutT P e := by
  rw [cutT, assoc3, assoc3]
theorem cut_join0 (P : ByteArray) (e : Int) : (⟨#[]⟩ : ByteArray) ++ P.extract 0 ((P.size : Int) + e).toNat ++ (⟨#[46]⟩ : ByteArray) ++ P.extract ((P.size : Int) + e).toNat P.size = cutT P e := by
  rw [cut_join]
  apply ByteArray.ext
  simp

set_option maxHeartbeats 8000000 in
theorem specNumText (v : V) (A : Option Addr) (cap : Nat) (w : World) (hf : v.fits) (hw : v.weight ≤ 1048576) (hat : Vs.at_ w 0 w.heap.size v.kids A) :
    Calls Tryz.prog 40 #[v.agg A cap] w fun e w' => e = .returned (.string (numTextB v)) ∧ Below w.heap.size w w' := by
  have HA := Lib.hid hat
  have hf3 := (V.fits_eq v).1 hf
  have hn := hf3.2.2.2.2.1
  have he := hf3.2.2.2.2.2
  unfold inI at hn he
  clear hat hf hf3
  have cN := fun W => specDecText v.n W hn
  have cE := fun W => specDecText v.e W he
  have HCN := Lib.hid cN
  have HCE := Lib.hid cE
  clear cN cE
  unfold V.agg
  go_enter Tryz.func40, Tryz.ntmps40
  go_wp2_with fail
  have b0 : Below w.heap.size w (w.alloc (.cells #[.int .i64 v.k, .int .i64 v.n, .int .i64 v.e, .string v.s, .slice A v.kids.length cap] 43)) := (Below.refl _ w).alloc (Nat.le_refl _) _
  refine (specValueOk v A cap _ hw (Vs.at_more (Nat.le_refl _) b0.size _ _ (Vs.at_below HA.out b0 (Nat.le_refl _)))).mono ?_
  rintro e w1 ⟨rfl, hb1⟩
  obtain ⟨p0, p1, p2, p3, p4⟩ := ((Blk.new w 43 #[.int .i64 v.k, .int .i64 v.n, .int .i64 v.e, .string v.s, .slice A v.kids.length cap]).below hb1 (by simp)).five
  have b1 : Below w.heap.size w w1 := b0.trans (hb1.mono b0.size)
  clear b0 hb1
  by_cases hok : okV v
  · rw [show decide (okV v) = true from decide_eq_true hok]
    have HU : Hid (numTextB v = if v.k = 3 then str (Lib.itoa v.n) else if v.k = 4 then if 0 < v.e then str (Lib.itoa v.n) ++ ((⟨#[101]⟩ : ByteArray) ++ str (Lib.itoa v.e)) else if v.n < 0 then (⟨#[45]⟩ : ByteArray) ++ cutT (str (padL (Lib.decDigits v.n.natAbs) (-v.e).toNat)) v.e else cutT (str (padL (Lib.decDigits v.n.natAbs) (-v.e).toNat)) v.e else ⟨#[]⟩) := Lib.hid (by rw [numTextB, if_pos hok])
    by_cases h3 : v.k = 3
    · have q3 : (v.k == 3) = true := by rw [h3]; rfl
      have HR := Lib.hid (HU.out.trans (if_pos h3))
      clear hok h3
      go_wp2_with fail
      refine (HCN.out w1).mono ?_
      rintro e w2 ⟨rfl, rfl⟩
      go_wp2_with fail
      go_ret
      exact ⟨congrArg (fun x => Ending.returned (.string x)) HR.out.symm, b1⟩
    have q3 : (v.k == 3) = false := by simpa using h3
    by_cases h4 : v.k = 4
    · have q4 : (v.k != 4) = false := by rw [h4]; rfl
      have HR := Lib.hid (HU.out.trans ((if_neg h3).trans (if_pos h4)))
      have hdec := (okV_leaf ⟨.inr h4, hok⟩).2.2.2 h4
      have hlow : -20 ≤ v.e := hdec.1
      have hnr : -999999999999999999 ≤ v.n ∧ v.n ≤ 999999999999999999 := ⟨hdec.2.2.2.1, hdec.2.2.2.2.1⟩
      clear hok h3 h4 hdec
      by_cases hp : 0 < v.e
      · have qp : decide (0 < v.e) = true := decide_eq_true hp
        have HR2 := Lib.hid (HR.out.trans (if_pos hp))
        clear hp
        go_wp2_with fail
        have hs1 := itoa_size hn
        have hs2 := itoa_size he
        obtain ⟨sN, hsN⟩ : ∃ sN, str (Lib.itoa v.n) = sN := ⟨_, rfl⟩
        obtain ⟨sE, hsE⟩ : ∃ sE, str (Lib.itoa v.e) = sE := ⟨_, rfl⟩
        rw [hsN] at HR2 hs1
        rw [hsE] at HR2 hs2
        have HSN := Lib.hid hsN
        have HSE := Lib.hid hsE
        clear HU HR hsN hsE HCN HCE
        go_region_with (go_at_call 25; refine (specDecText _ _ (by first | exact hn | exact he)).mono ?_; rintro e w2 ⟨rfl, rfl⟩; first | rw [HSN.out] | rw [HSE.out])
        all_goals go_wp2_with fail
        all_goals go_ret
        all_goals refine ⟨?_, b1.drew⟩
        all_goals rw [HR2.out]
        all_goals first | rfl | (rw [← assoc3]; rfl)
      · have qp : decide (0 < v.e) = false := decide_eq_false hp
        have HR2 := Lib.hid (HR.out.trans (if_neg hp))
        obtain ⟨D, hD⟩ : ∃ D, Lib.decDigits v.n.natAbs = D := ⟨_, rfl⟩
        have hDl : D.length ≤ 19 := by rw [← hD]; exact dec_len _ (by omega)
        obtain ⟨K, hK⟩ : ∃ K : Nat, (-v.e).toNat = K := ⟨_, rfl⟩
        have hK1 : v.e ≤ -(K : Int) := by omega
        have hK2 : -(K : Int) ≤ v.e := by omega
        have hKE : Hid (-v.e = (K : Int)) := Lib.hid (by omega)
        have hK20 : K ≤ 20 := by omega
        have HPAD := Lib.hid (fun W => specPad D K W hK20 hDl)
        have hPl : K < (str (padL D K)).size := by rw [str_size]; exact padL_len D K
        have hPm : (str (padL D K)).size ≤ K + 1 + D.length := by rw [str_size]; exact padL_le D K
        rw [hD, hK] at HR2
        obtain ⟨P, hP⟩ : ∃ P, str (padL D K) = P := ⟨_, rfl⟩
        rw [hP] at HPAD HR2 hPl hPm
        have hsz := itoa_size hn
        by_cases hneg : v.n < 0
        · have qn : decide (v.n < 0) = true := decide_eq_true hneg
          have HX := Lib.hid (itoa_cut hneg)
          rw [hD] at HX
          have HR3 := Lib.hid (HR2.out.trans (if_pos hneg))
          clear hneg hP hK hD
          go_wp2_with fail
          refine (HCN.out w1).mono ?_
          rintro e w2 ⟨rfl, rfl⟩
          obtain ⟨s, hs⟩ : ∃ s, str (Lib.itoa v.n) = s := ⟨_, rfl⟩
          rw [hs] at HX hsz ⊢
          clear hs
          go_wp2_with fail
          rw [HX.out, hKE.out]
          refine (HPAD.out _).mono ?_
          rintro e w2 ⟨rfl, rfl⟩
          go_wp2_with fail
          go_quiet (fail)
          go_wp2_with fail
          go_ret
          exact ⟨congrArg (fun x => Ending.returned (.string x)) ((cut_join _ _ _).trans HR3.out.symm), below_drewN b1 _⟩
        · have qn : decide (v.n < 0) = false := decide_eq_false hneg
          have HX := Lib.hid (itoa_nat hneg)
          rw [hD] at HX
          have HR3 := Lib.hid (HR2.out.trans (if_neg hneg))
          clear hneg hP hK hD
          go_wp2_with fail
          refine (HCN.out w1).mono ?_
          rintro e w2 ⟨rfl, rfl⟩
          rw [HX.out]
          go_wp2_with fail
          rw [hKE.out]
          refine (HPAD.out _).mono ?_
          rintro e w2 ⟨rfl, rfl⟩
          go_wp2_with fail
          go_quiet (fail)
          go_wp2_with fail
          go_ret
          exact ⟨congrArg (fun x => Ending.returned (.string x)) ((cut_join0 _ _).trans HR3.out.symm), below_drewN b1 _⟩
    · have q4 : (v.k != 4) = true := by simpa using h4
      have HR := Lib.hid (HU.out.trans ((if_neg h3).trans (if_neg h4)))
      clear hok h3 h4
      go_wp2_with fail
      go_ret
      exact ⟨congrArg (fun x => Ending.returned (.string x)) HR.out.symm, b1⟩
  · rw [show decide (okV v) = false from decide_eq_false hok]
    have HR : Hid (numTextB v = ⟨#[]⟩) := Lib.hid (by rw [numTextB, if_neg hok])
    clear hok
    go_wp2_with fail
    go_ret
    exact ⟨congrArg (fun x => Ending.returned (.string x)) HR.out.symm, b1⟩
end Go.Proofs.YtbfddabljkoapaaGreatDoor

/-
  The draws of FnNumber.
-/
namespace Go.Proofs.YtbfddabljkoapaaGreatDoor
open Go.RowKit
set_option linter.unusedVariables false
set_option linter.unusedSimpArgs false
set_option maxRecDepth 100000

/-- What drawing a value hands back. -/
def DrewV (w : World) (e : Ending) (w' : World) : Prop := ∃ (v : V) (B : Option Addr) (c : Nat), e = .returned (v.agg B c) ∧ v.fits ∧ v.weight ≤ 1400 ∧ v.kids.length ≤ c ∧ Vs.at_ w' 0 w'.heap.size v.kids B ∧ Below w.heap.size w w'
def drN : List Int := [0, 1, -1, 10, 100000, 15, 9223372036854775807, -9223372036854775808, 922337203685477580, 1000000000000000000]
def drE : List Int := [0, 1, -1, 2, 18, 19, 20, 21, -20, -21, -25, 1000, 1001, -1001]
theorem drN_in : ∀ z ∈ drN, inR z := by
  intro z hz
  simp only [drN, List.mem_cons, List.not_mem_nil, or_false] at hz
  unfold inR
  omega
theorem drE_in : ∀ z ∈ drE, -1001 ≤ z ∧ z ≤ 1001 := by decide
set_option maxHeartbeats 4000000 in
theorem drawNorm (A : Option Addr) (cap : Nat) (code : List UInt8) (w : World) (hat : At1 w w.heap.size A (code.map bv)) (hn : code.length ≤ 1000000000) :
    Calls Tryz.prog 31 #[.slice A code.length cap] w fun e w' => (∃ (n x : Int), inR n ∧ (-1001 ≤ x ∧ x ≤ 1001) ∧ e = .returned (.tuple #[.int .i64 n, .int .i64 x])) ∧ Below w.heap.size w w' := by
  have HN := Lib.hid (dNew A cap code w hat hn)
  clear hat
  go_enter Tryz.func31, Tryz.ntmps31
  go_wp2_with fail
  refine HN.out.mono ?_
  rintro e w1 ⟨rfl, hc1, hb1⟩
  go_wp2_with fail
  refine (dPickIntNew drN _ A cap code _ (by decide) (by decide) hc1).mono ?_
  rintro e w2 ⟨⟨n, hn, rfl⟩, hd2⟩
  have hn2 := drN_in n hn
  clear hn
  go_wp2_with fail
  refine (dPickIntNew drE _ A cap code _ (by decide) (by decide) hd2.1).mono ?_
  rintro e w3 ⟨⟨x, hx, rfl⟩, hd3⟩
  have hx2 := drE_in x hx
  clear hx
  go_wp2_with fail
  go_ret2
  exact ⟨⟨n, x, hn2, hx2, rfl⟩, (hd2.trans hd3).toBelow hb1 (Nat.le_refl _)⟩
theorem dNew1 (A : Option Addr) (cap : Nat) (code : List UInt8) (w : World) (o : Obj) (hat : At1 w w.heap.size A (code.map bv)) (hn : code.length ≤ 1000000000) :
    Calls Tryz.prog 49 #[.slice A code.length cap] (w.alloc o) fun e w' => e = .returned (.pointer (some ⟨w.heap.size + 1, 0, none⟩)) ∧ Cur w' (w.heap.size + 1) A cap code ∧ Below (w.heap.size + 1) (w.alloc o) w' := by
  have hz : (w.alloc o).heap.size = w.heap.size + 1 := by simp
  have h := dNew A cap code (w.alloc o) ((hat.below ((Below.refl w.heap.size w).alloc (Nat.le_refl _) o) (Nat.le_refl _)).more (by omega)) hn
  simp only [hz] at h
  exact h
theorem DrewV.of {w w1 w2 W : World} {b : Nat} {A : Option Addr} {cap : Nat} {code : List UInt8} {v : V} {B : Option Addr} {c : Nat} {F : List Nat} {e : Ending} (he : e = .returned (v.agg B c)) (h1 : v.fits) (h2 : v.weight ≤ 1400) (h3 : v.kids.length ≤ c) (h4 : Vs.lies w2 v.kids B F) (h6 : ∀ x ∈ F, w1.heap.size ≤ x)
    (b1 : Below w.heap.size w w1) (hb : w.heap.size < b) (hz : w.heap.size < w1.heap.size) (h7 : Drawn w1 b A cap code w2) (hg : Gr w.heap.size w2 W) : DrewV w e W :=
  ⟨v, B, c, he, h1, h2, h3, Vs.lies_at (Vs.lies_same h4 ⟨hg.size, fun x hx => hg.block x (lies_lt h4 x hx) (by intro e; injection e with e; have := h6 x hx; omega)⟩) (fun _ _ => Nat.zero_le _),
    (b1.trans (h7.2.toBelow (by omega) b1.size)).trans (hg.toBelow (Nat.le_refl _) (Nat.le_trans b1.size h7.2.size))⟩
set_option maxHeartbeats 4000000 in
theorem drawNumText (A : Option Addr) (cap : Nat) (code : List UInt8) (w : World) (hat : At1 w w.heap.size A (code.map bv)) (hn : code.length ≤ 1000000000) :
    Calls Tryz.prog 34 #[.slice A code.length cap] w (DrewV w) := by
  have HN := Lib.hid (dNew1 A cap code w (.cells #[.int .i64 0, .int .i64 0, .int .i64 0, .string ⟨#[]⟩, .slice none 0 0] 43) hat hn)
  have B0 := Lib.hid (Blk.new w 43 #[.int .i64 0, .int .i64 0, .int .i64 0, .string ⟨#[]⟩, .slice none 0 0])
  have b0 : Below w.heap.size w (w.alloc (.cells #[.int .i64 0, .int .i64 0, .int .i64 0, .string ⟨#[]⟩, .slice none 0 0] 43)) := (Below.refl _ w).alloc (Nat.le_refl _) _
  have Z0 : Hid ((w.alloc (.cells #[.int .i64 0, .int .i64 0, .int .i64 0, .string ⟨#[]⟩, .slice none 0 0] 43)).heap.size = w.heap.size + 1) := Lib.hid (by simp)
  clear hat
  go_enter Tryz.func34, Tryz.ntmps34
  go_wp2_with fail
  refine HN.out.mono ?_
  rintro e w1 ⟨rfl, hc1, hb1⟩
  have B1 := Lib.hid (B0.out.below hb1 (by omega))
  have b1 := b0.trans (hb1.mono (by omega))
  have hz1 : w.heap.size < w1.heap.size := B1.out.lt
  clear hb1 b0 B0 HN Z0
  go_wp2_with fail
  refine (dNum _ A cap code w1 hc1).mono ?_
  rintro e w2 hdv
  obtain ⟨v, B, c, F, rfl, h1, h2, h3, h4, h5, h6, h7⟩ := hdv.opened
  have B2 := Lib.hid (res_cells B1.out (by omega) h7.2)
  have HR := Lib.hid (fun (W : World) (hg : Gr w.heap.size w2 W) => DrewV.of (e := .returned (v.agg B c)) rfl h1 h2 h3 h4 h6 b1 (by omega) hz1 h7 hg)
  clear h1 h2 h3 h4 h5 h6 h7 hdv B1
  have B9 := B2.out
  obtain ⟨p0, p1, p2, p3, p4⟩ := B9.five
  have f0 := B9.frozen 0
  have f1 := B9.frozen 1
  have f2 := B9.frozen 2
  have f3 := B9.frozen 3
  have f4 := B9.frozen 4
  clear B9
  unfold V.agg
  go_wp2_with fail
  refine bodyPost_ret (v := v.agg B c) (by simp [results, Tryz.results34, go_sem, p0, p1, p2, p3, p4, V.agg]) rfl (HR.out _ ?hd)
  case hd => repeat (first | exact Gr.refl _ _ | (refine Gr.trans ?_ (Gr.set _ _ _ _)))
def rdL : List ByteArray := [⟨#[48]⟩, ⟨#[45, 48]⟩, ⟨#[48, 48]⟩, ⟨#[48, 49]⟩, ⟨#[49, 46]⟩, ⟨#[46, 53]⟩, ⟨#[49, 46, 53, 48]⟩, ⟨#[49, 101, 53]⟩, ⟨#[49, 69, 43, 50]⟩, ⟨#[49, 101, 45, 50]⟩, ⟨#[49, 101]⟩, ⟨#[45]⟩, ⟨#[49, 46, 53, 101, 51]⟩, ⟨#[57, 50, 50, 51, 51, 55, 50, 48, 51, 54, 56, 53, 52, 55, 55, 53, 56, 48, 55]⟩, ⟨#[57, 50, 50, 51, 51, 55, 50, 48, 51, 54, 56, 53, 52, 55, 55, 53, 56, 48, 56]⟩, ⟨#[45, 57, 50, 50, 51, 51, 55, 50, 48, 51, 54, 56, 53, 52, 55, 55, 53, 56, 48, 56]⟩, ⟨#[48, 46, 48, 48, 48, 48, 48, 48, 48, 48, 48, 48, 48, 48, 48, 48, 48, 48, 48, 48, 48, 48, 49]⟩, ⟨#[49, 101, 50, 48]⟩, ⟨#[49, 101, 52, 48, 48]⟩, ⟨#[48, 46, 48]⟩, ⟨#[49, 48, 48, 48, 48, 48, 48, 48, 48, 48, 48, 48, 48, 48, 48, 48, 48, 48, 48, 48, 48]⟩, ⟨#[49, 50, 51, 52, 53, 54, 55, 56, 57, 48, 49, 50, 51, 52, 53, 54, 55, 56, 46, 57]⟩, ⟨#[49, 50, 51, 52, 53, 54, 55, 56, 57, 48, 49, 50, 51, 52, 53, 54, 55, 56, 57, 46, 48]⟩]
theorem rdL_size : ∀ s ∈ rdL, s.size ≤ 24 := by decide
def rdT : List ByteArray := [⟨#[]⟩, ⟨#[44]⟩, ⟨#[101]⟩, ⟨#[46]⟩]
theorem rdT_size : ∀ s ∈ rdT, s.size ≤ 1 := by decide
def rdI : List Int := [1, 1, 1, 1, 0, 2, -1, 9223372036854775807]
theorem rdI_in : ∀ z ∈ rdI, inR z := by
  intro z hz
  simp only [rdI, List.mem_cons, List.not_mem_nil, or_false] at hz
  unfold inR
  omega
theorem numTextB_size {v : V} (hf : v.fits) : (numTextB v).size ≤ 64 := by
  have hf3 := (V.fits_eq v).1 hf
  have hn := hf3.2.2.2.2.1
  have he := hf3.2.2.2.2.2
  unfold inI at hn he
  have s1 := itoa_size hn
  have s2 := itoa_size he
  have hl := dec_len v.n.natAbs (by omega)
  unfold numTextB
  split
  · rename_i hok
    split
    · omega
    · split
      · rename_i h4
        have hd := (okV_leaf ⟨.inr h4, hok⟩).2.2.2 h4
        unfold decOk at hd
        have hp := padL_le (Lib.decDigits v.n.natAbs) (-v.e).toNat
        have hc : (cutT (str (padL (Lib.decDigits v.n.natAbs) (-v.e).toNat)) v.e).size ≤ 45 := by
          unfold cutT
          rw [ByteArray.size_append, ByteArray.size_append, ByteArray.size_extract, ByteArray.size_extract, str_size]
          have : (⟨#[46]⟩ : ByteArray).size = 1 := rfl
          omega
        have e1 : (⟨#[101]⟩ : ByteArray).size = 1 := rfl
        have e2 : (⟨#[45]⟩ : ByteArray).size = 1 := rfl
        split
        · rw [ByteArray.size_append, ByteArray.size_append]; omega
        · split
          · rw [ByteArray.size_append]; omega
          · omega
      · exact Nat.zero_le _
  · exact Nat.zero_le _
set_option maxHeartbeats 8000000 in
theorem drawReadNum (A : Option Addr) (cap : Nat) (code : List UInt8) (w : World) (hat : At1 w w.heap.size A (code.map bv)) (hn : code.length ≤ 1000000000) :
    Calls Tryz.prog 36 #[.slice A code.length cap] w fun e w' => (∃ (t : ByteArray) (z : Int), t.size ≤ 200 ∧ inR z ∧ e = .returned (.tuple #[.string t, .int .i64 z])) ∧ Below w.heap.size w w' := by
  have HN := Lib.hid (dNew A cap code w hat hn)
  clear hat
  go_enter Tryz.func36, Tryz.ntmps36
  go_wp2_with fail
  refine HN.out.mono ?_
  rintro e w1 ⟨rfl, hc1, hb1⟩
  go_wp2_with fail
  refine (dNum _ A cap code w1 hc1).mono ?_
  rintro e w2 hdv
  obtain ⟨v, B, c, F, rfl, h1, h2, h3, h4, h5, h6, h7⟩ := hdv.opened
  have HQ := Lib.hid (specNumText v B c w2 h1 (by omega) (Vs.lies_at h4 (fun _ _ => Nat.zero_le _)))
  have hqs := numTextB_size h1
  have HD2 := Lib.hid h7
  clear h1 h2 h3 h4 h5 h6 h7 hdv
  generalize numTextB v = q at HQ hqs
  unfold V.agg at HQ ⊢
  go_wp2_with fail
  refine HQ.out.mono ?_
  rintro e w3 ⟨rfl, hb3⟩
  have HD3 := Lib.hid (HD2.out.trans (Drawn.of HD2.out.1 hb3))
  clear HQ HD2 hb3
  go_wp2_with fail
  refine (dOnce 2 _ A cap code w3 (by omega) (by omega) HD3.out.1).mono ?_
  rintro e w4 ⟨⟨r, rfl⟩, hd4⟩
  have HD4 := Lib.hid (HD3.out.trans hd4)
  clear hd4
  have hx1 : (ByteArray.mk #[120]).size = 1 := rfl
  cases r with
  | true =>
    go_wp2_with fail
    refine (dPickNew rdL _ A cap code _ (by decide) (by decide) HD4.out.1).mono ?_
    rintro e w5 ⟨⟨p, hp, rfl⟩, hd5⟩
    have hps := rdL_size p hp
    have HD5 := Lib.hid (HD4.out.trans hd5)
    clear hp hd5 HD4
    go_wp2_with fail
    refine (dBent p _ A cap code w5 (by omega) HD5.out.1).mono ?_
    rintro e w6 ⟨⟨t, ht, rfl⟩, hd6⟩
    have HD6 := Lib.hid (HD5.out.trans hd6)
    have ht2 : t.size ≤ 99 := by omega
    clear hd6 ht
    go_wp2_with fail
    refine (dPickNew rdT _ A cap code _ (by decide) (by decide) HD6.out.1).mono ?_
    rintro e w7 ⟨⟨u, hu, rfl⟩, hd7⟩
    have hus := rdT_size u hu
    have HD7 := Lib.hid (HD6.out.trans hd7)
    clear hu hd7 HD6
    go_wp2_with fail
    refine (dPickIntNew rdI _ A cap code _ (by decide) (by decide) HD7.out.1).mono ?_
    rintro e w8 ⟨⟨z, hz, rfl⟩, hd8⟩
    have hzr := rdI_in z hz
    clear hz
    go_wp2_with fail
    go_ret2
    exact ⟨⟨_, z, by rw [ByteArray.size_append, ByteArray.size_append]; omega, hzr, rfl⟩, (HD7.out.trans hd8).toBelow hb1 (Nat.le_refl _)⟩
  | false =>
    go_wp2_with fail
    refine (dBent q _ A cap code w4 (by omega) HD4.out.1).mono ?_
    rintro e w6 ⟨⟨t, ht, rfl⟩, hd6⟩
    have HD6 := Lib.hid (HD4.out.trans hd6)
    have ht2 : t.size ≤ 99 := by omega
    clear hd6 ht
    go_wp2_with fail
    refine (dPickNew rdT _ A cap code _ (by decide) (by decide) HD6.out.1).mono ?_
    rintro e w7 ⟨⟨u, hu, rfl⟩, hd7⟩
    have hus := rdT_size u hu
    have HD7 := Lib.hid (HD6.out.trans hd7)
    clear hu hd7 HD6
    go_wp2_with fail
    refine (dPickIntNew rdI _ A cap code _ (by decide) (by decide) HD7.out.1).mono ?_
    rintro e w8 ⟨⟨z, hz, rfl⟩, hd8⟩
    have hzr := rdI_in z hz
    clear hz
    go_wp2_with fail
    go_ret2
    exact ⟨⟨_, z, by rw [ByteArray.size_append, ByteArray.size_append]; omega, hzr, rfl⟩, (HD7.out.trans hd8).toBelow hb1 (Nat.le_refl _)⟩
end Go.Proofs.YtbfddabljkoapaaGreatDoor

/-
  What a law's walk carries along: its own values' cells, and where a drawn value's kids lie.
-/
namespace Go.Proofs.YtbfddabljkoapaaGreatDoor
open Go.RowKit
set_option linter.unusedVariables false
set_option maxRecDepth 100000

/-- The world behind w0: blocks that hold a value's cells; values whose kids lie at an address. -/
def Ctx (w0 : World) (L : List (Nat × Array Value)) (K : List (V × Option Addr)) (W : World) : Prop :=
  Below w0.heap.size w0 W ∧ (∀ x ∈ L, Blk W x.1 43 x.2) ∧ ∀ x ∈ K, Vs.at_ W 0 W.heap.size x.1.kids x.2
theorem Ctx.start (w0 : World) : Ctx w0 [] [] w0 := ⟨Below.refl _ _, (fun _ h => by cases h), fun _ h => by cases h⟩
theorem Ctx.below {w0 W W' : World} {L : List (Nat × Array Value)} {K : List (V × Option Addr)} (h : Ctx w0 L K W) (hb : Below W.heap.size W W') : Ctx w0 L K W' :=
  ⟨h.1.trans (hb.mono h.1.size), fun x hx => (h.2.1 x hx).below hb (h.2.1 x hx).lt, fun x hx => Vs.at_more (Nat.le_refl _) hb.size _ _ (Vs.at_below (h.2.2 x hx) hb (Nat.le_refl _))⟩
theorem Ctx.drew {w0 W : World} {L : List (Nat × Array Value)} {K : List (V × Option Addr)} (h : Ctx w0 L K W) : Ctx w0 L K W.drew := h.below ((Below.refl _ W).drew)
theorem Ctx.new {w0 W : World} {L : List (Nat × Array Value)} {K : List (V × Option Addr)} (h : Ctx w0 L K W) (cs : Array Value) : Ctx w0 ((W.heap.size, cs) :: L) K (W.alloc (.cells cs 43)) := by
  have h2 := h.below ((Below.refl _ W).alloc (Nat.le_refl _) (.cells cs 43))
  refine ⟨h2.1, fun x hx => ?_, h2.2.2⟩
  rcases List.mem_cons.1 hx with rfl | hx
  · exact Blk.new _ _ _
  · exact h2.2.1 x hx
theorem Ctx.kid {w0 W : World} {L : List (Nat × Array Value)} {K : List (V × Option Addr)} (h : Ctx w0 L K W) {v : V} {B : Option Addr} (hat : Vs.at_ W 0 W.heap.size v.kids B) : Ctx w0 L ((v, B) :: K) W :=
  ⟨h.1, h.2.1, fun x hx => by
    rcases List.mem_cons.1 hx with rfl | hx
    · exact hat
    · exact h.2.2 x hx⟩
theorem Ctx.blk {w0 W : World} {L : List (Nat × Array Value)} {K : List (V × Option Addr)} (h : Ctx w0 L K W) {p : Nat} {cs : Array Value} (hm : (p, cs) ∈ L) : Blk W p 43 cs := h.2.1 _ hm
theorem Ctx.at_ {w0 W : World} {L : List (Nat × Array Value)} {K : List (V × Option Addr)} (h : Ctx w0 L K W) {v : V} {B : Option Addr} (hm : (v, B) ∈ K) : Vs.at_ W 0 W.heap.size v.kids B := h.2.2 _ hm
theorem Ctx.tail {w0 W : World} {x : Nat × Array Value} {L : List (Nat × Array Value)} {K : List (V × Option Addr)} (h : Ctx w0 (x :: L) K W) : Ctx w0 L K W := ⟨h.1, fun y hy => h.2.1 y (List.mem_cons_of_mem _ hy), h.2.2⟩
/-- The five cells of a value in a block, in every world behind. -/
theorem Ctx.five {w0 W : World} {L : List (Nat × Array Value)} {K : List (V × Option Addr)} (h : Ctx w0 L K W) {p : Nat} {a b c d e : Value} (hm : (p, #[a, b, c, d, e]) ∈ L) :
    W.cell? ⟨p, 0, none⟩ = some a ∧ W.cell? ⟨p, 1, none⟩ = some b ∧ W.cell? ⟨p, 2, none⟩ = some c ∧ W.cell? ⟨p, 3, none⟩ = some d ∧ W.cell? ⟨p, 4, none⟩ = some e := (h.blk hm).five
end Go.Proofs.YtbfddabljkoapaaGreatDoor

/-
  The order of two values is one order.
-/
namespace Go.Proofs.YtbfddabljkoapaaGreatDoor
open Go.RowKit
set_option linter.unusedVariables false
set_option linter.unusedSimpArgs false

/-- What three comparisons of three things obey. -/
def Tri (x y z : Int) : Prop := (x ≤ 0 → y ≤ 0 → z ≤ 0) ∧ (x ≤ 0 → y < 0 → z < 0) ∧ (x < 0 → y ≤ 0 → z < 0) ∧ (x = 0 → y = 0 → z = 0)
theorem tri_lex {x y z x' y' z' : Int} (h : Tri x y z) (h' : x = 0 → y = 0 → Tri x' y' z') : Tri (if x = 0 then x' else x) (if y = 0 then y' else y) (if z = 0 then z' else z) := by
  by_cases hx : x = 0
  · by_cases hy : y = 0
    · have hz := h.2.2.2 hx hy
      rw [if_pos hx, if_pos hy, if_pos hz]
      exact h' hx hy
    · rw [if_pos hx, if_neg hy]
      unfold Tri at *
      split <;> omega
  · rw [if_neg hx]
    unfold Tri at *
    split <;> split <;> omega
theorem tri_less (a b c : Int) : Tri (lessI a b) (lessI b c) (lessI a c) := by
  unfold Tri lessI
  repeat' split
  all_goals omega
theorem bl_cons (a b : UInt8) (l m : List UInt8) : Op.bytesLess (a :: l) (b :: m) = true ↔ a.toNat < b.toNat ∨ (a = b ∧ Op.bytesLess l m = true) := by
  by_cases h1 : a.toNat < b.toNat
  · have : a < b := UInt8.lt_iff_toNat_lt.2 h1
    simp [Op.bytesLess, this, h1]
  · have h2 : ¬ a < b := fun h => h1 (UInt8.lt_iff_toNat_lt.1 h)
    by_cases h3 : a = b
    · subst h3; simp [Op.bytesLess]
    · simp [Op.bytesLess, h1, h2, h3]
theorem bl_nil (l : List UInt8) : Op.bytesLess l [] = true ↔ False := by
  cases l <;> simp [Op.bytesLess]
theorem bl_trans : ∀ a b c : List UInt8, Op.bytesLess a b = true → Op.bytesLess b c = true → Op.bytesLess a c = true
  | a, b, [], _, h => absurd h (by simp [bl_nil])
  | a, [], c :: cs, h, _ => absurd h (by simp [bl_nil])
  | [], b :: bs, c :: cs, _, _ => rfl
  | a :: la, b :: lb, c :: lc, h, k => by
    rw [bl_cons] at *
    rcases h with h | ⟨rfl, h⟩
    · rcases k with k | ⟨rfl, k⟩
      · left; omega
      · exact .inl h
    · rcases k with k | ⟨rfl, k⟩
      · exact .inl k
      · exact .inr ⟨rfl, bl_trans la lb lc h k⟩
theorem tri_text (a b c : ByteArray) : Tri (lessT a b) (lessT b c) (lessT a c) := by
  have e : ∀ x y : ByteArray, (lessT x y = -1 ∧ Op.bytesLess x.toList y.toList = true) ∨ (lessT x y = 0 ∧ x.toList = y.toList) ∨ (lessT x y = 1 ∧ Op.bytesLess y.toList x.toList = true) := fun x y => by
    unfold lessT
    rcases bl_tri x.toList y.toList with ⟨h1, h2, h3⟩ | ⟨h1, h2, h3⟩ | ⟨h1, h2, h3⟩
    · left; rw [h1]; simp
    · right; left; rw [h1, h3]; simp
    · right; right; rw [h1, h2]; simp [h3]
  have t := bl_trans a.toList b.toList c.toList
  have hs := bytesLess_self a.toList
  rcases e a b with ⟨h1, h2⟩ | ⟨h1, h2⟩ | ⟨h1, h2⟩
  · rcases e b c with ⟨k1, k2⟩ | ⟨k1, k2⟩ | ⟨k1, k2⟩
    · have := t h2 k2
      rcases e a c with ⟨m1, m2⟩ | ⟨m1, m2⟩ | ⟨m1, m2⟩
      · unfold Tri; omega
      · rw [← m2] at this; rw [hs] at this; cases this
      · have := bl_trans _ _ _ this m2; rw [hs] at this; cases this
    · have : lessT a c = -1 := by unfold lessT; rw [← k2, h2]; rfl
      unfold Tri; omega
    · unfold Tri; omega
  · have : lessT a c = lessT b c := by unfold lessT; rw [h2]
    unfold Tri; omega
  · unfold Tri; omega
theorem orN_tri {f g h : Nat → Int} : ∀ n, (∀ i, i < n → Tri (f i) (g i) (h i)) → Tri (orN f n) (orN g n) (orN h n)
  | 0, _ => by unfold Tri orN; omega
  | n + 1, k => by
    unfold orN
    exact tri_lex (orN_tri n (fun i hi => k i (by omega))) (fun _ _ => k n (by omega))
theorem V.ord_tri (a b c : V) : Tri (V.ord a b) (V.ord b c) (V.ord a c) := by
  refine orN_tri 5 fun i hi => ?_
  rcases (show i = 0 ∨ i = 1 ∨ i = 2 ∨ i = 3 ∨ i = 4 by omega) with rfl | rfl | rfl | rfl | rfl
  · exact tri_less _ _ _
  · exact tri_less _ _ _
  · exact tri_less _ _ _
  · exact tri_text _ _ _
  · exact tri_less _ _ _
theorem orN_swap {f g : Nat → Int} : ∀ n, (∀ i, i < n → g i = - f i) → orN g n = - orN f n
  | 0, _ => rfl
  | n + 1, h => by
    have ih := orN_swap n (fun i hi => h i (by omega))
    have hn := h n (by omega)
    unfold orN
    by_cases h0 : orN f n = 0
    · rw [if_pos h0, if_pos (by omega), hn]
    · rw [if_neg h0, if_neg (by omega), ih]
theorem V.ord_swap (a b : V) : V.ord b a = - V.ord a b := by
  refine orN_swap 5 fun i hi => ?_
  rcases (show i = 0 ∨ i = 1 ∨ i = 2 ∨ i = 3 ∨ i = 4 by omega) with rfl | rfl | rfl | rfl | rfl
  · exact lessI_swap _ _
  · exact lessI_swap _ _
  · exact lessI_swap _ _
  · exact lessT_swap _ _
  · exact lessI_swap _ _
theorem V.cmp_eq (a b : V) : V.cmp a b = if V.ord a b = 0 then Vs.cmp a.kids b.kids else V.ord a b := by
  by_cases h : V.ord a b = 0
  · rw [if_pos h, V.cmp_zero h]
  · rw [if_neg h, V.cmp_ord h]
theorem Vs.cmp_swap : ∀ (l m : List V), (∀ i (h : i < l.length), ∀ b, V.cmp b l[i] = - V.cmp l[i] b) → Vs.cmp m l = - Vs.cmp l m
  | [], m, _ => by rw [Vs.cmp_nil]; simp only [Vs.cmp]; rfl
  | a :: l, [], _ => by rw [Vs.cmp_nil]; simp only [Vs.cmp]; rfl
  | a :: l, b :: m, h => by
    have h0 := h 0 (by simp) b
    rw [List.getElem_cons_zero] at h0
    have ih := Vs.cmp_swap l m (fun i hi b => by have := h (i + 1) (by simpa using hi) b; simpa using this)
    rw [Vs.cmp_cons, Vs.cmp_cons]
    by_cases hz : V.cmp a b = 0
    · rw [if_pos hz, if_pos (by omega), ih]
    · rw [if_neg hz, if_neg (by omega), h0]
theorem V.cmp_swap (a : V) : ∀ b, V.cmp b a = - V.cmp a b := by
  refine V.all (P := fun a => ∀ b, V.cmp b a = - V.cmp a b) (fun a hk b => ?_) a
  have h1 := V.ord_swap a b
  rw [V.cmp_eq, V.cmp_eq a b]
  by_cases hz : V.ord a b = 0
  · rw [if_pos hz, if_pos (by omega)]
    exact Vs.cmp_swap _ _ hk
  · rw [if_neg hz, if_neg (by omega), h1]
theorem V.cmp_self (a : V) : V.cmp a a = 0 := by
  have := V.cmp_swap a a
  omega
theorem V.same_self (a : V) : V.same a a = true := by unfold V.same; exact decide_eq_true (V.cmp_self a)
theorem Vs.cmp_tri : ∀ (l m n : List V), l.length = m.length → m.length = n.length → (∀ i (h : i < l.length), ∀ b c, Tri (V.cmp l[i] b) (V.cmp b c) (V.cmp l[i] c)) → Tri (Vs.cmp l m) (Vs.cmp m n) (Vs.cmp l n)
  | [], [], [], _, _, _ => by simp only [Vs.cmp]; unfold Tri; omega
  | [], [], c :: n, _, h, _ => by simp at h
  | [], b :: m, n, h, _, _ => by simp at h
  | a :: l, [], n, h, _, _ => by simp at h
  | a :: l, b :: m, [], _, h, _ => by simp at h
  | a :: l, b :: m, c :: n, h1, h2, h => by
    have h0 := h 0 (by simp) b c
    rw [List.getElem_cons_zero] at h0
    have ih := Vs.cmp_tri l m n (by simpa using h1) (by simpa using h2) (fun i hi b c => by have := h (i + 1) (by simpa using hi) b c; simpa using this)
    rw [Vs.cmp_cons, Vs.cmp_cons, Vs.cmp_cons]
    exact tri_lex h0 (fun _ _ => ih)
/-- Values are in one order. -/
theorem V.cmp_tri (a : V) : ∀ b c, Tri (V.cmp a b) (V.cmp b c) (V.cmp a c) := by
  refine V.all (P := fun a => ∀ b c, Tri (V.cmp a b) (V.cmp b c) (V.cmp a c)) (fun a hk b c => ?_) a
  rw [V.cmp_eq a b, V.cmp_eq b c, V.cmp_eq a c]
  refine tri_lex (V.ord_tri a b c) fun h1 h2 => ?_
  exact Vs.cmp_tri _ _ _ (V.ord_len h1) (V.ord_len h2) hk
end Go.Proofs.YtbfddabljkoapaaGreatDoor

/-
  The laws' own test of equality.
-/
namespace Go.Proofs.YtbfddabljkoapaaGreatDoor
open Go.RowKit
set_option linter.unusedVariables false
set_option maxRecDepth 100000
set_option linter.unusedSimpArgs false

def LawSameSaid (a : V) : Prop := ∀ (b : V) (A B : Option Addr) (ca cb : Nat) (w : World), a.nodes ≤ 1048577 → b.nodes ≤ 1048577 → Vs.at_ w 0 w.heap.size a.kids A → Vs.at_ w 0 w.heap.size b.kids B →
    Calls Tryz.prog 39 #[a.agg A ca, b.agg B cb] w fun e w' => e = .returned (.bool (V.same a b)) ∧ Below w.heap.size w w'
theorem Vs.same_len {l m : List V} (h : l.length = m.length) : Vs.same l m = decide (Vs.cmp l m = 0) := by unfold Vs.same; simp [h]

set_option maxHeartbeats 8000000 in
theorem lawSame_step (a : V) (hk : ∀ i (h : i < a.kids.length), LawSameSaid a.kids[i]) : LawSameSaid a := by
  intro b A B ca cb w hn hm hat hbt
  rw [V.nodes_eq] at hn hm
  have hla : a.kids.length ≤ 1048576 := by have := Vs.len_nodes a.kids; omega
  have hlb : b.kids.length ≤ 1048576 := by have := Vs.len_nodes b.kids; omega
  have HK := fun (i : Nat) (h : i < a.kids.length) (h2 : i < b.kids.length) (A' B' : Option Addr) (c c' : Nat) (w' : World) (h1 : Vs.at_ w' 0 w'.heap.size (a.kids[i]).kids A') (h2' : Vs.at_ w' 0 w'.heap.size (b.kids[i]).kids B') => hk i h b.kids[i] A' B' c c' w' (by have := Vs.nodes_get i h; omega) (by have := Vs.nodes_get i h2; omega) h1 h2'
  have HC := Lib.hid HK
  clear HK hk
  have HA := Lib.hid hat
  have HB := Lib.hid hbt
  have HS := Lib.hid (Vs.cmp_first a.kids b.kids)
  have HN := Lib.hid (Vs.cmp_none a.kids b.kids)
  clear hat hbt
  unfold V.agg
  have HN2 : ∀ h : V.ord a b ≠ 0, V.same a b = false := V.same_no
  have HO := Lib.hid (V.ord_iff a b)
  have HNN := Lib.hid HN2
  clear HN2 hn hm
  by_cases h1 : (a.k == b.k) = true
  · by_cases h2 : (a.n == b.n) = true
    · by_cases h3 : (a.e == b.e) = true
      · by_cases h4 : (a.s.toList == b.s.toList) = true
        · by_cases h5 : a.kids.length = b.kids.length
          · have HY := Lib.hid ((V.same_yes (eq_of_beq h1) (eq_of_beq h2) (eq_of_beq h3) (text_eq h4)).trans (Vs.same_len h5))
            have HL := Lib.hid h5
            have B0 := Lib.hid (Blk.new w 43 #[.int .i64 a.k, .int .i64 a.n, .int .i64 a.e, .string a.s, .slice A a.kids.length ca])
            have h1' : (a.k != b.k) = false := by simp [bne, h1]
            have h2' : (a.n != b.n) = false := by simp [bne, h2]
            have h3' : (a.e != b.e) = false := by simp [bne, h3]
            have h4' : (a.s.toList != b.s.toList) = false := by simp [bne, h4]
            have h5' : ((a.kids.length : Int) == (b.kids.length : Int)) = true := by rw [h5]; simp
            have h5'' : ((a.kids.length : Int) != (b.kids.length : Int)) = false := by rw [h5]; simp
            clear h5
            go_enter Tryz.func39, Tryz.ntmps39
            go_wp2_with fail
            obtain ⟨w2, hw2, Ba, Bb, b1, z2⟩ := two_new w 43 43 #[.int .i64 a.k, .int .i64 a.n, .int .i64 a.e, .string a.s, .slice A a.kids.length ca] #[.int .i64 b.k, .int .i64 b.n, .int .i64 b.e, .string b.s, .slice B b.kids.length cb]
            rw [← hw2]
            clear hw2
            go_loopw [5] (fun i wr => ∃ j : Nat, j ≤ a.kids.length ∧ i = .int .i64 j ∧ (∀ k (h1 : k < a.kids.length) (h2 : k < b.kids.length), k < j → V.cmp a.kids[k] b.kids[k] = 0) ∧ Below w2.heap.size w2 wr) (fun i _ => a.kids.length - (intOf i).toNat)
            case atStart => exact ⟨0, Nat.zero_le _, rfl, fun k _ _ hk => by omega, Below.refl _ _⟩
            case round =>
              obtain ⟨j, hj, rfl, hz, hb⟩ := hrel
              have HH := Lib.hid hz
              clear hz
              have Ca := Ba.below hb (by omega)
              have Cb := Bb.below hb (by omega)
              obtain ⟨p0, p1, p2, p3, p4⟩ := Ca.five
              obtain ⟨q0, q1, q2, q3, q4⟩ := Cb.five
              have hbs := hb.size
              have hbw : Below w.heap.size w wr := b1.trans (hb.mono b1.size)
              by_cases hlt : j < a.kids.length
              · have hlt2 : j < b.kids.length := by have := HL.out; omega
                obtain ⟨g, off, A', cap', rfl, g1, g2, g3, ⟨c0, c1, c2, c3, c4⟩, g5⟩ := Vs.at_get j hlt (Vs.at_below HA.out hbw (Nat.le_refl _))
                obtain ⟨g', off2, A2', cap2', rfl, g12, g22, g32, ⟨d0, d1, d2, d3, d4⟩, g52⟩ := Vs.at_get j hlt2 (Vs.at_below HB.out hbw (Nat.le_refl _))
                have HJ := Lib.hid (HS.out j hlt hlt2 HH.out)
                clear p0 p1 p2 p3 q0 q1 q2 q3 Ca Cb
                have hgw : g < wr.heap.size := by omega
                have hgw' : g' < wr.heap.size := by omega
                go_wp2_with fail
                go_still_tail 10, (by kernel_rfl)
                change wpList _ _ _ _ _ wr.drew
                go_wp2_with fail
                refine (HC.out j hlt hlt2 A' A2' cap' cap2' wr.drew (Vs.at_more (Nat.le_refl _) hbw.size _ _ (Vs.at_drew g5)) (Vs.at_more (Nat.le_refl _) hbw.size _ _ (Vs.at_drew g52))).mono ?_
                rintro e w3 ⟨rfl, hb3⟩
                have hb4 : Below w2.heap.size w2 w3 := hb.drew.trans (hb3.mono hb.size)
                clear c0 c1 c2 c3 c4 d0 d1 d2 d3 d4 p4 q4
                by_cases h0 : V.cmp a.kids[j] b.kids[j] = 0
                · have H0 := Lib.hid h0
                  rw [show V.same a.kids[j] b.kids[j] = true from decide_eq_true h0]
                  clear h0
                  go_wp2_with fail
                  go_roundw
                  case rel => exact ⟨j + 1, by omega, by go_num, fun k h1 h2 hk => by
                    by_cases hk2 : k = j
                    · subst hk2; exact H0.out
                    · exact HH.out k h1 h2 (by omega), hb4⟩
                  case measure => simp [intOf]; try omega
                · rw [show V.same a.kids[j] b.kids[j] = false from decide_eq_false h0]
                  have HY2 := Lib.hid ((HY.out.trans (by rw [HJ.out h0]; exact decide_eq_false h0) : V.same a b = false))
                  go_wp2_with fail
                  go_ret
                  exact ⟨ret_bool HY2.out.symm, b1.trans (hb4.mono b1.size)⟩
              · obtain rfl : j = a.kids.length := by omega
                have HY2 := Lib.hid (show V.same a b = true from HY.out.trans (decide_eq_true (HN.out fun k h1 h2 => HH.out k h1 h2 h1)))
                clear p0 p1 p2 p3 q0 q1 q2 q3 Ca Cb
                go_wp2_with fail
                go_ret
                exact ⟨ret_bool HY2.out.symm, hbw⟩
          · have HY := Lib.hid (HNN.out fun h => h5 (HO.out.1 h).2.2.2.2)
            have k1 : (a.k != b.k) = false := by simp [bne, h1]
            have k2 : (a.n != b.n) = false := by simp [bne, h2]
            have k3 : (a.e != b.e) = false := by simp [bne, h3]
            have k4 : (a.s.toList != b.s.toList) = false := by simp [bne, h4]
            have k5 : ((a.kids.length : Int) == (b.kids.length : Int)) = false := by rw [beq_eq_false_iff_ne]; omega
            have l5 : ((a.kids.length : Int) != (b.kids.length : Int)) = true := by simp only [bne, k5]; rfl
            clear h5
            go_enter Tryz.func39, Tryz.ntmps39
            go_wp2_with fail
            go_ret
            exact ⟨ret_bool (by rw [HY.out]), ((Below.refl _ w).alloc (Nat.le_refl _) _).alloc (by simp) _⟩
        · have HY := Lib.hid (HNN.out fun h => h4 (by rw [(HO.out.1 h).2.2.2.1]; exact beq_self_eq_true _))
          have k1 : (a.k != b.k) = false := by simp [bne, h1]
          have k2 : (a.n != b.n) = false := by simp [bne, h2]
          have k3 : (a.e != b.e) = false := by simp [bne, h3]
          have k4 : (a.s.toList == b.s.toList) = false := by simpa using h4
          have l4 : (a.s.toList != b.s.toList) = true := by simp only [bne, k4]; rfl
          clear h4
          go_enter Tryz.func39, Tryz.ntmps39
          go_wp2_with fail
          go_ret
          exact ⟨ret_bool (by rw [HY.out]), ((Below.refl _ w).alloc (Nat.le_refl _) _).alloc (by simp) _⟩
      · have HY := Lib.hid (HNN.out fun h => h3 (by rw [(HO.out.1 h).2.2.1]; exact beq_self_eq_true _))
        have k1 : (a.k != b.k) = false := by simp [bne, h1]
        have k2 : (a.n != b.n) = false := by simp [bne, h2]
        have k3 : (a.e == b.e) = false := by simpa using h3
        have l3 : (a.e != b.e) = true := by simp only [bne, k3]; rfl
        clear h3
        go_enter Tryz.func39, Tryz.ntmps39
        go_wp2_with fail
        go_ret
        exact ⟨ret_bool (by rw [HY.out]), ((Below.refl _ w).alloc (Nat.le_refl _) _).alloc (by simp) _⟩
    · have HY := Lib.hid (HNN.out fun h => h2 (by rw [(HO.out.1 h).2.1]; exact beq_self_eq_true _))
      have k1 : (a.k != b.k) = false := by simp [bne, h1]
      have k2 : (a.n == b.n) = false := by simpa using h2
      have l2 : (a.n != b.n) = true := by simp only [bne, k2]; rfl
      clear h2
      go_enter Tryz.func39, Tryz.ntmps39
      go_wp2_with fail
      go_ret
      exact ⟨ret_bool (by rw [HY.out]), ((Below.refl _ w).alloc (Nat.le_refl _) _).alloc (by simp) _⟩
  · have HY := Lib.hid (HNN.out fun h => h1 (by rw [(HO.out.1 h).1]; exact beq_self_eq_true _))
    have k1 : (a.k == b.k) = false := by simpa using h1
    have l1 : (a.k != b.k) = true := by simp only [bne, k1]; rfl
    clear h1
    go_enter Tryz.func39, Tryz.ntmps39
    go_wp2_with fail
    go_ret
    exact ⟨ret_bool (by rw [HY.out]), ((Below.refl _ w).alloc (Nat.le_refl _) _).alloc (by simp) _⟩
theorem lawSame (a : V) : LawSameSaid a := V.all lawSame_step a
end Go.Proofs.YtbfddabljkoapaaGreatDoor

/-
  Norm of the program.
-/
namespace Go.Proofs.YtbfddabljkoapaaGreatDoor
open Go.RowKit
set_option linter.unusedVariables false
set_option linter.unusedSimpArgs false
set_option maxRecDepth 100000

theorem tdiv_ten {n x : Int} {k : Nat} (h : n = x * 10 ^ k) (hm : Int.tmod x 10 = 0) : n = Int.tdiv x 10 * 10 ^ (k + 1) := by
  have h1 := Int.tmod_add_mul_tdiv x 10
  rw [Int.pow_succ, Int.mul_comm (10 ^ k) 10, ← Int.mul_assoc, h]
  congr 1
  omega
theorem inR_tdiv {x : Int} (h : inR x) : inR (Int.tdiv x 10) := by
  have h1 := Int.tmod_add_mul_tdiv x 10
  have h3 : -10 < Int.tmod x 10 ∧ Int.tmod x 10 < 10 := by
    constructor
    · have := Int.lt_tmod_of_pos x (show (0 : Int) < 10 by omega); omega
    · exact Int.tmod_lt_of_pos _ (by omega)
  unfold inR at *
  omega
theorem tdiv_small {x : Int} (hx : x ≠ 0) : (Int.tdiv x 10).natAbs < x.natAbs := by
  rw [Int.natAbs_tdiv]
  exact Nat.div_lt_self (by omega) (by decide)
theorem tdiv_ne {x : Int} (hx : x ≠ 0) (hm : Int.tmod x 10 = 0) : Int.tdiv x 10 ≠ 0 := by
  have h1 := Int.tmod_add_mul_tdiv x 10
  intro h
  rw [hm, h] at h1
  omega

set_option maxHeartbeats 8000000 in
theorem implNorm_out (n e : Int) (w : World) (he : ¬ (-1000 ≤ e ∧ e ≤ 1000)) : Calls Tryz.prog 32 #[.int .i64 n, .int .i64 e] w (NormRet n e w) := by
  have HN := Lib.hid (normR_out (n := n) he)
  rcases (show decide (-1000 ≤ e) = false ∨ (decide (-1000 ≤ e) = true ∧ decide (e ≤ 1000) = false) by
    by_cases h : -1000 ≤ e
    · exact .inr ⟨decide_eq_true h, decide_eq_false (fun h2 => he ⟨h, h2⟩)⟩
    · exact .inl (decide_eq_false h)) with hc | hc
  all_goals
    clear he
    go_enter Tryz.func32, Tryz.ntmps32
    go_wp2_with (go_at_call 56; go_in)
    refine bodyPost_ret (v := .tuple #[.agg #[.int .i64 0, .int .i64 0, .int .i64 0, .string ⟨#[]⟩, .slice none 0 0], .bool false]) (by simp [results, Tryz.results32, go_sem]) rfl (normRet_none HN.out rfl ?_)
    repeat (first | exact (Below.refl _ w).alloc (Nat.le_refl _) _ | (refine Below.setCell ?_ (by simp) _))

set_option maxHeartbeats 8000000 in
theorem implNorm_in (n e : Int) (w : World) (hn : inR n) (he : -1000 ≤ e ∧ e ≤ 1000) : Calls Tryz.prog 32 #[.int .i64 n, .int .i64 e] w (NormRet n e w) := by
  have hd1 : decide (-1000 ≤ e) = true := decide_eq_true he.1
  have hd2 : decide (e ≤ 1000) = true := decide_eq_true he.2
  obtain ⟨he1, he2⟩ := he
  have HN := Lib.hid hn
  clear hn
  go_enter Tryz.func32, Tryz.ntmps32
  go_wp2_with (go_at_call 56; go_in)
  obtain ⟨w0, hw0⟩ : ∃ w0, w0 = w.alloc (.cells #[.int .i64 0, .int .i64 0, .int .i64 0, .string ⟨#[]⟩, .slice none 0 0] 43) := ⟨_, rfl⟩
  have B0 : Blk w0 w.heap.size 43 #[.int .i64 0, .int .i64 0, .int .i64 0, .string ⟨#[]⟩, .slice none 0 0] := by rw [hw0]; exact Blk.new w _ _
  have b0 : Below w.heap.size w w0 := by rw [hw0]; exact (Below.refl _ w).alloc (Nat.le_refl _) _
  have z0 : w0.heap.size = w.heap.size + 1 := by rw [hw0]; simp
  rw [← hw0]
  have lv := B0.lt
  have HB0 := Lib.hid b0
  have HV0 := Lib.hid B0
  have HZ0 := Lib.hid z0
  clear hw0 B0 b0 z0
  go_loop [0, 1] (fun z y => ∃ (x : Int) (k : Nat), z = .int .i64 x ∧ y = .int .i64 (e + k) ∧ n = x * 10 ^ k ∧ inR x) (fun z _ => (intOf z).natAbs)
  case atStart => exact ⟨n, 0, rfl, by simp, by simp, HN.out⟩
  case round =>
    obtain ⟨x, k, rfl, rfl, hnx, hx⟩ := hrel
    have hxr := hx
    unfold inR at hxr
    have HX := Lib.hid hx
    have HNX := Lib.hid hnx
    obtain ⟨q0, q1, q2, q3, q4⟩ := HV0.out.five
    have f0 := HV0.out.frozen 0
    have f1 := HV0.out.frozen 1
    have f2 := HV0.out.frozen 2
    have f3 := HV0.out.frozen 3
    have f4 := HV0.out.frozen 4
    by_cases hx0 : x = 0
    · subst hx0
      have HR : Hid (normR n e = some (V.int 0)) := Lib.hid (by rw [hnx, Int.zero_mul]; exact normR_zero ⟨he1, he2⟩)
      clear hx hnx
      go_wp2_with fail
      refine bodyPost_ret (v := .tuple #[.agg #[.int .i64 3, .int .i64 0, .int .i64 0, .string ⟨#[]⟩, .slice none 0 0], .bool true]) (by simp [results, Tryz.results32, go_sem, q0, q1, q2, q3, q4]) rfl (normRet_some HR.out rfl ?_)
      repeat (first | exact HB0.out | (refine Below.setCell ?_ (by simp) _))
    have hk18 : k ≤ 18 := pow_big hx0 (by rw [← hnx]; exact HN.out)
    have qx : (x != 0) = true := by simpa using hx0
    have qx2 : (x == 0) = false := by simpa using hx0
    by_cases hek : e + k = 0
    · have HR := Lib.hid (normR_whole ⟨he1, he2⟩ HN.out hx0 hnx hek)
      have qe : (e + (k : Int) != 0) = false := by rw [hek]; rfl
      have qe2 : (e + (k : Int) == 0) = true := by rw [hek]; rfl
      clear hx hnx hek hx0
      by_cases hm : Int.tmod x 10 = 0
      · have qm : (Int.tmod x 10 == 0) = true := by rw [hm]; rfl
        clear hm
        go_wp2_with fail
        refine bodyPost_ret (v := .tuple #[.agg #[.int .i64 3, .int .i64 x, .int .i64 0, .string ⟨#[]⟩, .slice none 0 0], .bool true]) (by simp [results, Tryz.results32, go_sem, q0, q1, q2, q3, q4]) rfl (normRet_some HR.out rfl ?_)
        repeat (first | exact HB0.out | (refine Below.setCell ?_ (by simp) _))
      · have qm : (Int.tmod x 10 == 0) = false := by simpa using hm
        clear hm
        go_wp2_with fail
        refine bodyPost_ret (v := .tuple #[.agg #[.int .i64 3, .int .i64 x, .int .i64 0, .string ⟨#[]⟩, .slice none 0 0], .bool true]) (by simp [results, Tryz.results32, go_sem, q0, q1, q2, q3, q4]) rfl (normRet_some HR.out rfl ?_)
        repeat (first | exact HB0.out | (refine Below.setCell ?_ (by simp) _))
    have qe : (e + (k : Int) != 0) = true := by simpa using hek
    have qe2 : (e + (k : Int) == 0) = false := by simpa using hek
    by_cases hm : Int.tmod x 10 = 0
    · have qm : (Int.tmod x 10 == 0) = true := by rw [hm]; rfl
      have hq := inR_tdiv hx
      have hqr := hq
      unfold inR at hqr
      have HQ := Lib.hid hq
      have HT := Lib.hid (tdiv_ten hnx hm)
      have HS := Lib.hid (tdiv_small hx0)
      clear hx hnx hm hx0 hq hek
      go_wp2_with fail
      go_round
      case rel => exact ⟨Int.tdiv x 10, k + 1, by go_num, by go_num, HT.out, HQ.out⟩
      case measure => simp only [intOf]; first | exact HS.out | (have := HS.out; go_num; omega)
    · have qm : (Int.tmod x 10 == 0) = false := by simpa using hm
      have HR := Lib.hid (normR_of ⟨he1, he2⟩ HN.out hm hnx)
      clear hm hnx hx0
      by_cases hp : 0 < e + k
      · have qp : decide (0 < e + (k : Int)) = true := decide_eq_true hp
        by_cases hin : inR (x * 10 ^ (e + (k : Int)).toNat)
        · have ht : tens x (e + (k : Int)).toNat = some (x * 10 ^ (e + (k : Int)).toNat) := by rw [tens_mul _ x hx, if_pos hin]
          have HRV := Lib.hid (HR.out.trans (normV_pos_some (by omega) hin))
          have HTT := Lib.hid ht
          obtain ⟨y, hy⟩ : ∃ y, x * 10 ^ (e + (k : Int)).toNat = y := ⟨_, rfl⟩
          rw [hy] at HRV HTT
          clear hx hin ht hy hek
          go_wp2_with fail
          refine (implFitsI x (e + k) w0 HX.out hp (by omega)).mono ?_
          rintro r w1 ⟨rfl, rfl⟩
          rw [HTT.out]
          go_wp2_with fail
          refine bodyPost_ret (v := .tuple #[.agg #[.int .i64 3, .int .i64 y, .int .i64 0, .string ⟨#[]⟩, .slice none 0 0], .bool true]) (by simp [results, Tryz.results32, go_sem, q0, q1, q2, q3, q4]) rfl (normRet_some HRV.out rfl ?_)
          repeat (first | exact HB0.out | (refine Below.setCell ?_ (by simp) _))
        · have ht : tens x (e + (k : Int)).toNat = none := by rw [tens_mul _ x hx, if_neg hin]
          have HNO : Hid (¬ (0 ≤ e + (k : Int) ∧ inR (x * 10 ^ (e + (k : Int)).toNat))) := Lib.hid (fun h => hin h.2)
          have HTT := Lib.hid ht
          clear hx hin ht hek
          go_wp2_with fail
          refine (implFitsI x (e + k) w0 HX.out hp (by omega)).mono ?_
          rintro r w1 ⟨rfl, rfl⟩
          rw [HTT.out]
          go_wp2_with fail
          go_loop [0, 1] (fun z y => z = .int .i64 x ∧ y = .int .i64 (e + k)) (fun _ _ => 0)
          case atStart => exact ⟨rfl, rfl⟩
          case round =>
            obtain ⟨rfl, rfl⟩ := hrel
            go_wp2_with fail
            obtain ⟨w2, hw2⟩ : ∃ w2, w2 = w0.alloc (.cells #[.int .i64 4, .int .i64 x, .int .i64 (e + k), .string ⟨#[]⟩, .slice none 0 0] 43) := ⟨_, rfl⟩
            have B2 : Blk w2 w0.heap.size 43 #[.int .i64 4, .int .i64 x, .int .i64 (e + k), .string ⟨#[]⟩, .slice none 0 0] := by rw [hw2]; exact Blk.new w0 _ _
            have bx2 : Below w0.heap.size w0 w2 := by rw [hw2]; exact (Below.refl _ w0).alloc (Nat.le_refl _) _
            rw [← hw2]
            clear hw2
            refine (implIsDec (V.dec x (e + k)) none 0 w2).mono ?_
            rintro r w3 ⟨rfl, hb3⟩
            have b03 : Below w0.heap.size w0 w3 := bx2.trans (hb3.mono bx2.size)
            have B3 := B2.below hb3 B2.lt
            have V3 := HV0.out.below b03 lv
            have bw3 : Below w.heap.size w w3 := HB0.out.trans (b03.mono HB0.out.size)
            have HBW := Lib.hid bw3
            have hl3 := V3.lt
            clear q0 q1 q2 q3 q4 f0 f1 f2 f3 f4
            obtain ⟨q0, q1, q2, q3, q4⟩ := V3.five
            obtain ⟨r0, r1, r2, r3, r4⟩ := B3.five
            have f0 := V3.frozen 0
            have f1 := V3.frozen 1
            have f2 := V3.frozen 2
            have f3 := V3.frozen 3
            have f4 := V3.frozen 4
            clear hb3 b03 bx2 B2 B3 V3 bw3
            by_cases hd : decOk x (e + k)
            · rw [show decide (decOk (V.dec x (e + k)).n (V.dec x (e + k)).e) = true from decide_eq_true hd]
              have HRV := Lib.hid (HR.out.trans (normV_dec HNO.out hd))
              clear hd
              go_wp2_with fail
              refine bodyPost_ret (v := .tuple #[.agg #[.int .i64 4, .int .i64 x, .int .i64 (e + k), .string ⟨#[]⟩, .slice none 0 0], .bool true]) (by simp [results, Tryz.results32, go_sem, q0, q1, q2, q3, q4]) rfl (normRet_some HRV.out rfl ?_)
              repeat (first | exact HBW.out | (refine Below.setCell ?_ (by simp) _))
            · rw [show decide (decOk (V.dec x (e + k)).n (V.dec x (e + k)).e) = false from decide_eq_false hd]
              have HRV := Lib.hid (HR.out.trans (normV_none HNO.out hd))
              clear hd
              go_wp2_with fail
              refine bodyPost_ret (v := .tuple #[.agg #[.int .i64 0, .int .i64 0, .int .i64 0, .string ⟨#[]⟩, .slice none 0 0], .bool false]) (by simp [results, Tryz.results32, go_sem, q0, q1, q2, q3, q4]) rfl (normRet_none HRV.out rfl ?_)
              repeat (first | exact HBW.out | (refine Below.setCell ?_ (by simp) _))
      · have qp : decide (0 < e + (k : Int)) = false := decide_eq_false hp
        have HNO : Hid (¬ (0 ≤ e + (k : Int) ∧ inR (x * 10 ^ (e + (k : Int)).toNat))) := Lib.hid (fun h => by omega)
        clear hx hek
        go_wp2_with fail
        obtain ⟨w2, hw2⟩ : ∃ w2, w2 = w0.alloc (.cells #[.int .i64 4, .int .i64 x, .int .i64 (e + k), .string ⟨#[]⟩, .slice none 0 0] 43) := ⟨_, rfl⟩
        have B2 : Blk w2 w0.heap.size 43 #[.int .i64 4, .int .i64 x, .int .i64 (e + k), .string ⟨#[]⟩, .slice none 0 0] := by rw [hw2]; exact Blk.new w0 _ _
        have bx2 : Below w0.heap.size w0 w2 := by rw [hw2]; exact (Below.refl _ w0).alloc (Nat.le_refl _) _
        rw [← hw2]
        clear hw2
        refine (implIsDec (V.dec x (e + k)) none 0 w2).mono ?_
        rintro r w3 ⟨rfl, hb3⟩
        have b03 : Below w0.heap.size w0 w3 := bx2.trans (hb3.mono bx2.size)
        have B3 := B2.below hb3 B2.lt
        have V3 := HV0.out.below b03 lv
        have bw3 : Below w.heap.size w w3 := HB0.out.trans (b03.mono HB0.out.size)
        have HBW := Lib.hid bw3
        have hl3 := V3.lt
        clear q0 q1 q2 q3 q4 f0 f1 f2 f3 f4
        obtain ⟨q0, q1, q2, q3, q4⟩ := V3.five
        obtain ⟨r0, r1, r2, r3, r4⟩ := B3.five
        have f0 := V3.frozen 0
        have f1 := V3.frozen 1
        have f2 := V3.frozen 2
        have f3 := V3.frozen 3
        have f4 := V3.frozen 4
        clear hb3 b03 bx2 B2 B3 V3 bw3
        by_cases hd : decOk x (e + k)
        · rw [show decide (decOk (V.dec x (e + k)).n (V.dec x (e + k)).e) = true from decide_eq_true hd]
          have HRV := Lib.hid (HR.out.trans (normV_dec HNO.out hd))
          clear hd
          go_wp2_with fail
          refine bodyPost_ret (v := .tuple #[.agg #[.int .i64 4, .int .i64 x, .int .i64 (e + k), .string ⟨#[]⟩, .slice none 0 0], .bool true]) (by simp [results, Tryz.results32, go_sem, q0, q1, q2, q3, q4]) rfl (normRet_some HRV.out rfl ?_)
          repeat (first | exact HBW.out | (refine Below.setCell ?_ (by simp) _))
        · rw [show decide (decOk (V.dec x (e + k)).n (V.dec x (e + k)).e) = false from decide_eq_false hd]
          have HRV := Lib.hid (HR.out.trans (normV_none HNO.out hd))
          clear hd
          go_wp2_with fail
          refine bodyPost_ret (v := .tuple #[.agg #[.int .i64 0, .int .i64 0, .int .i64 0, .string ⟨#[]⟩, .slice none 0 0], .bool false]) (by simp [results, Tryz.results32, go_sem, q0, q1, q2, q3, q4]) rfl (normRet_none HRV.out rfl ?_)
          repeat (first | exact HBW.out | (refine Below.setCell ?_ (by simp) _))
theorem implNorm (n e : Int) (w : World) (hn : inR n) : Calls Tryz.prog 32 #[.int .i64 n, .int .i64 e] w (NormRet n e w) := by
  by_cases he : -1000 ≤ e ∧ e ≤ 1000
  · exact implNorm_in n e w hn he
  · exact implNorm_out n e w he
end Go.Proofs.YtbfddabljkoapaaGreatDoor

/-
  NumText of the program.
-/
namespace Go.Proofs.YtbfddabljkoapaaGreatDoor
open Go.RowKit
set_option linter.unusedVariables false
set_option linter.unusedSimpArgs false
set_option maxRecDepth 100000

theorem repeat_zeros : ∀ c : Nat, Lib.repeatL [48] c = List.replicate c 48
  | 0 => rfl
  | c + 1 => by
    have h := Lib.repeatL_add [48] 1 c
    rw [Lib.repeatL_one, repeat_zeros c] at h
    rw [Nat.add_comm c 1, h, Nat.add_comm 1 c, List.replicate_succ]; rfl
theorem cut_minus (n : Int) : (⟨(Lib.trimPrefix (str (Lib.itoa n)).data.toList (⟨#[45]⟩ : ByteArray).data.toList).toArray⟩ : ByteArray) = str (Lib.decDigits n.natAbs) ∧ Lib.hasPrefix (str (Lib.itoa n)).data.toList (⟨#[45]⟩ : ByteArray).data.toList = decide (n < 0) := by
  by_cases h : n < 0
  · obtain ⟨u, rfl⟩ : ∃ u : Nat, n = -(u : Int) := ⟨n.natAbs, by omega⟩
    rw [itoa_neg u (by omega), Int.natAbs_neg, Int.natAbs_natCast, decide_eq_true h]
    simp [str, Lib.trimPrefix, Lib.hasPrefix, List.isPrefixOf]
  · obtain ⟨u, rfl⟩ := Int.eq_ofNat_of_zero_le (show 0 ≤ n by omega)
    rw [itoa_pos, Int.natAbs_natCast, decide_eq_false h]
    have h1 := dec_digit u
    have h2 := dec_ne u
    cases hc : Lib.decDigits u with
    | nil => exact absurd hc h2
    | cons b l =>
      rw [hc] at h1
      have hb := h1 b (List.mem_cons_self ..)
      have hne : ((45 : UInt8) == b) = false := by
        apply beq_eq_false_iff_ne.2
        intro h
        rw [← h] at hb
        simp at hb
      simp [str, Lib.trimPrefix, Lib.hasPrefix, List.isPrefixOf, hne]

set_option maxHeartbeats 2000000 in
theorem implDigits (n : Int) (w : World) (h : -9223372036854775808 ≤ n ∧ n ≤ 9223372036854775807) (hP : Pow10 w) :
    Calls Tryz.prog 114 #[.int .i64 n] w fun e w' => e = .returned (.tuple #[.string (str (Lib.decDigits n.natAbs)), .bool (decide (n < 0))]) ∧ Below w.heap.size w w' := by
  have HD := Lib.hid (implDecText n w h hP)
  have HC := Lib.hid (cut_minus n)
  clear hP
  go_enter Tryz.func114, Tryz.ntmps114
  go_wp2_with fail
  refine HD.out.mono ?_
  rintro e w1 ⟨rfl, hb1⟩
  have HT := Lib.hid (Tryz.strings_CutPrefix (str (Lib.itoa n)) ⟨#[45]⟩ w1)
  rw [HC.out.1, HC.out.2] at HT
  clear HC HD
  go_wp2_with fail
  refine HT.out.mono ?_
  rintro e w2 ⟨rfl, rfl⟩
  go_wp2_with fail
  go_ret2
  exact ⟨rfl, hb1⟩

set_option maxHeartbeats 8000000 in
theorem implNumTxt (v : V) (A : Option Addr) (cap : Nat) (w : World) (hf : v.fits) (hnum : numOk v) (hP : Pow10 w) :
    Calls Tryz.prog 78 #[v.agg A cap] w fun e w' => e = .returned (.string (numTextB v)) ∧ Below w.heap.size w w' := by
  have HP := Lib.hid hP
  have hf3 := (V.fits_eq v).1 hf
  have hn := hf3.2.2.2.2.1
  have he := hf3.2.2.2.2.2
  unfold inI at hn he
  clear hf hf3 hP
  obtain ⟨w0, hw0⟩ : ∃ w0, w0 = w.alloc (.cells #[.int .i64 v.k, .int .i64 v.n, .int .i64 v.e, .string v.s, .slice A v.kids.length cap] 43) := ⟨_, rfl⟩
  have b0 : Below w.heap.size w w0 := by rw [hw0]; exact (Below.refl _ w).alloc (Nat.le_refl _) _
  have B0 : Blk w0 w.heap.size 43 #[.int .i64 v.k, .int .i64 v.n, .int .i64 v.e, .string v.s, .slice A v.kids.length cap] := by rw [hw0]; exact Blk.new w _ _
  have P0 := HP.out.below b0 (Nat.le_refl _)
  have lv := B0.lt
  have hs0 := b0.size
  have HB0 := Lib.hid b0
  have HV0 := Lib.hid B0
  have HP0 := Lib.hid P0
  clear b0 P0 HP
  obtain ⟨p0, p1, p2, p3, p4⟩ := B0.five
  clear B0
  have HU : Hid (numTextB v = if v.k = 3 then str (Lib.itoa v.n) else if v.k = 4 then if 0 < v.e then str (Lib.itoa v.n) ++ ((⟨#[101]⟩ : ByteArray) ++ str (Lib.itoa v.e)) else if v.n < 0 then (⟨#[45]⟩ : ByteArray) ++ cutT (str (padL (Lib.decDigits v.n.natAbs) (-v.e).toNat)) v.e else cutT (str (padL (Lib.decDigits v.n.natAbs) (-v.e).toNat)) v.e else ⟨#[]⟩) := Lib.hid (by rw [numTextB, if_pos hnum.2])
  unfold V.agg
  by_cases h3 : v.k = 3
  · have q3 : (v.k == 3) = true := by rw [h3]; rfl
    have HR := Lib.hid (HU.out.trans (if_pos h3))
    clear hnum h3
    go_enter Tryz.func78, Tryz.ntmps78
    go_wp2_with fail
    rw [← hw0]
    refine (implDecText v.n w0 hn HP0.out).mono ?_
    rintro e w2 ⟨rfl, hb2⟩
    go_wp2_with fail
    go_ret
    exact ⟨congrArg (fun x => Ending.returned (.string x)) HR.out.symm, HB0.out.trans (hb2.mono hs0)⟩
  have h4 : v.k = 4 := hnum.1.resolve_left h3
  have q3 : (v.k == 3) = false := by simpa using h3
  have HR := Lib.hid (HU.out.trans ((if_neg h3).trans (if_pos h4)))
  have hdec := (okV_leaf hnum).2.2.2 h4
  have hlow : -20 ≤ v.e := hdec.1
  have hnr : -999999999999999999 ≤ v.n ∧ v.n ≤ 999999999999999999 := ⟨hdec.2.2.2.1, hdec.2.2.2.2.1⟩
  clear hnum h3 h4 hdec
  by_cases hp : 0 < v.e
  · have qp : decide (0 < v.e) = true := decide_eq_true hp
    have HR2 := Lib.hid (HR.out.trans (if_pos hp))
    have hs1 := itoa_size hn
    have hs2 := itoa_size he
    obtain ⟨sN, hsN⟩ : ∃ sN, str (Lib.itoa v.n) = sN := ⟨_, rfl⟩
    obtain ⟨sE, hsE⟩ : ∃ sE, str (Lib.itoa v.e) = sE := ⟨_, rfl⟩
    rw [hsN] at HR2 hs1
    rw [hsE] at HR2 hs2
    have HSN := Lib.hid hsN
    have HSE := Lib.hid hsE
    clear hp HU HR hsN hsE
    go_enter Tryz.func78, Tryz.ntmps78
    go_wp2_with fail
    rw [← hw0]
    clear hw0
    have KE : Hid (∀ w' : World, Below w0.heap.size w0 w' → w'.cell? ⟨w.heap.size, 1, none⟩ = some (.int .i64 v.n) ∧ w'.cell? ⟨w.heap.size, 2, none⟩ = some (.int .i64 v.e)) := Lib.hid (fun w' hb => ⟨(HV0.out.below hb lv).cell 1, (HV0.out.below hb lv).cell 2⟩)
    have hbr : Below w0.heap.size w0 w0 := Below.refl _ _
    clear p0 p3 p4
    have hadd1 : ∀ W : World, (Op.stringOp .add sN (⟨#[101]⟩ : ByteArray)).run Tryz.prog W = .ok (.string (sN ++ (⟨#[101]⟩ : ByteArray))) W := fun W => run_string_add_sum _ _ _ (by show sN.size + 1 ≤ _; omega)
    have hadd2 : ∀ W : World, (Op.stringOp .add (sN ++ (⟨#[101]⟩ : ByteArray)) sE).run Tryz.prog W = .ok (.string (sN ++ ((⟨#[101]⟩ : ByteArray) ++ sE))) W := fun W => by
      rw [← assoc3]
      exact run_string_add_sum _ _ _ (by rw [ByteArray.size_append]; show sN.size + 1 + sE.size ≤ _; omega)
    go_region_held3 (fun w' => w'.cell? ⟨w.heap.size, 1, none⟩ = some (.int .i64 v.n) ∧ w'.cell? ⟨w.heap.size, 2, none⟩ = some (.int .i64 v.e)) (first | exact KE.out _ hbx2 | exact KE.out _ hbx1 | exact KE.out _ hbr.drew | exact KE.out _ hbr)
      (first
      | (have hgate := hbx1; clear hgate; go_at_call 24; refine (implDecText v.e w1 he (HP0.out.below hbx1 (Nat.le_refl _))).mono ?_; rintro e w2 ⟨rfl, hbx'⟩; have hbx2 := hbx1.trans (hbx'.mono hbx1.size); rw [HSE.out])
      | (go_at_call 24; refine (implDecText v.n w0.drew hn (HP0.out.below hbr.drew (Nat.le_refl _))).mono ?_; rintro e w1 ⟨rfl, hbx'⟩; have hbx1 : Below w0.heap.size w0 w1 := hbr.drew.trans hbx'; rw [HSN.out]))
    go_wp2_with fail
    go_ret
    refine ⟨?_, HB0.out.trans (hbx2.mono hs0)⟩
    rw [HR2.out]
    first | rfl | (rw [← assoc3]; rfl)
  · have qp : decide (0 < v.e) = false := decide_eq_false hp
    have HR2 := Lib.hid (HR.out.trans (if_neg hp))
    have HDG := Lib.hid (implDigits v.n w0 hn HP0.out)
    obtain ⟨D, hD⟩ : ∃ D, Lib.decDigits v.n.natAbs = D := ⟨_, rfl⟩
    have hDl : D.length ≤ 19 := by rw [← hD]; exact dec_len _ (by omega)
    obtain ⟨K, hK⟩ : ∃ K : Nat, (-v.e).toNat = K := ⟨_, rfl⟩
    have hK1 : v.e ≤ -(K : Int) := by omega
    have hK2 : -(K : Int) ≤ v.e := by omega
    have hK20 : K ≤ 20 := by omega
    have hPl : K < (str (padL D K)).size := by rw [str_size]; exact padL_len D K
    have hPm : (str (padL D K)).size ≤ K + 1 + D.length := by rw [str_size]; exact padL_le D K
    have HPE : Hid (∀ c : Nat, (c : Int) = 1 - v.e - (D.length : Int) → (⟨(Lib.repeatL (⟨#[48]⟩ : ByteArray).data.toList c).toArray⟩ : ByteArray) ++ str D = str (padL D K)) := Lib.hid (fun c hc => by
      rw [show (⟨#[48]⟩ : ByteArray).data.toList = [48] from rfl, repeat_zeros, padL, show K + 1 - D.length = c by omega]
      apply ByteArray.ext; apply Array.ext'; simp [str])
    have HPZ : Hid (1 - v.e - (D.length : Int) ≤ 0 → str D = str (padL D K)) := Lib.hid (fun hc => by
      rw [padL, show K + 1 - D.length = 0 by omega]; rfl)
    have hsD : (str D).size = D.length := str_size D
    rw [hD, hK] at HR2
    rw [hD] at HDG
    obtain ⟨P, hPP⟩ : ∃ P, str (padL D K) = P := ⟨_, rfl⟩
    rw [hPP] at HR2 hPl hPm HPE HPZ
    obtain ⟨sD, hsDD⟩ : ∃ sD, str D = sD := ⟨_, rfl⟩
    rw [hsDD] at HPE HPZ hsD HDG
    clear hD hK hPP hsDD HU HR
    rcases (show (decide (v.n < 0) = true ∧ numTextB v = (⟨#[45]⟩ : ByteArray) ++ cutT P v.e) ∨ (decide (v.n < 0) = false ∧ numTextB v = cutT P v.e) by
      by_cases hneg : v.n < 0
      · exact .inl ⟨decide_eq_true hneg, HR2.out.trans (if_pos hneg)⟩
      · exact .inr ⟨decide_eq_false hneg, HR2.out.trans (if_neg hneg)⟩) with ⟨qn, hR⟩ | ⟨qn, hR⟩
    all_goals
      have HR3 := Lib.hid hR
      clear hR
      by_cases hz : 0 < 1 - v.e - (D.length : Int)
      · have qz : decide (0 < 1 - v.e - (D.length : Int)) = true := decide_eq_true hz
        obtain ⟨c, hc⟩ : ∃ c : Nat, (c : Int) = 1 - v.e - (D.length : Int) := ⟨(1 - v.e - (D.length : Int)).toNat, by omega⟩
        have hc2 : c ≤ 40 := by omega
        have HJ := Lib.hid (HPE.out c hc)
        have HCC := Lib.hid hc
        have hrl : (⟨(Lib.repeatL (⟨#[48]⟩ : ByteArray).data.toList c).toArray⟩ : ByteArray).size ≤ 40 := by
          show (Lib.repeatL [48] c).toArray.size ≤ 40
          rw [repeat_zeros]; simpa using hc2
        clear hc HPE HPZ
        go_enter Tryz.func78, Tryz.ntmps78
        go_wp2_with fail
        rw [← hw0]
        refine HDG.out.mono ?_
        rintro e w1 ⟨rfl, hb1⟩
        clear p0 p1 p2 p3 p4
        obtain ⟨p0, p1, p2, p3, p4⟩ := (HV0.out.below hb1 lv).five
        have lv1 := (HV0.out.below hb1 lv).lt
        go_wp2_with fail
        rw [← HCC.out]
        refine (Tryz.strings_Repeat ⟨#[48]⟩ c w1 (by omega) (by show 1 * c ≤ _; omega)).mono ?_
        rintro e w2 ⟨rfl, hb2⟩
        have hb12 := hb1.trans (hb2.mono hb1.size)
        clear p0 p1 p2 p3 p4
        obtain ⟨p0, p1, p2, p3, p4⟩ := (HV0.out.below hb12 lv).five
        obtain ⟨sR, hsR⟩ : ∃ sR, (⟨(Lib.repeatL (⟨#[48]⟩ : ByteArray).data.toList c).toArray⟩ : ByteArray) = sR := ⟨_, rfl⟩
        rw [hsR] at HJ hrl ⊢
        have hPs := congrArg ByteArray.size HJ.out
        rw [ByteArray.size_append] at hPs
        have HPS : Hid ((P.size : Int) = (sR.size : Int) + (D.length : Int)) := Lib.hid (by omega)
        have hPs1 : P.size ≤ sR.size + D.length := by omega
        have hPs2 : sR.size + D.length ≤ P.size := by omega
        clear hsR hPs
        go_wp2_with fail
        rw [HJ.out]
        go_wp2_with fail
        go_quiet (fail)
        go_wp2_with fail
        go_ret
        refine ⟨?_, below_drewN (HB0.out.trans (hb12.mono hs0)) _⟩
        rw [HR3.out]
        rw [cutT, HPS.out]
        first | rfl | exact congrArg (fun x => Ending.returned (.string ((⟨#[45]⟩ : ByteArray) ++ x))) (assoc3 _ _ _) | (rw [← assoc3]; rfl)
      · have qz : decide (0 < 1 - v.e - (D.length : Int)) = false := decide_eq_false hz
        have HJ := Lib.hid (HPZ.out (by omega))
        clear HPE HPZ
        go_enter Tryz.func78, Tryz.ntmps78
        go_wp2_with fail
        rw [← hw0]
        refine HDG.out.mono ?_
        rintro e w1 ⟨rfl, hb1⟩
        clear p0 p1 p2 p3 p4
        obtain ⟨p0, p1, p2, p3, p4⟩ := (HV0.out.below hb1 lv).five
        have lv1 := (HV0.out.below hb1 lv).lt
        have hb12 := hb1
        have hsm : sD.size ≤ 100 := by omega
        have hPs := congrArg ByteArray.size HJ.out
        have HPS : Hid ((P.size : Int) = (D.length : Int)) := Lib.hid (by omega)
        have hPs1 : P.size ≤ D.length := by omega
        have hPs2 : D.length ≤ P.size := by omega
        clear hPs
        go_wp2_with fail
        rw [HJ.out]
        go_wp2_with fail
        go_quiet (fail)
        go_wp2_with fail
        go_ret
        refine ⟨?_, below_drewN (HB0.out.trans (hb12.mono hs0)) _⟩
        rw [HR3.out]
        rw [cutT, HPS.out]
        first | rfl | exact congrArg (fun x => Ending.returned (.string ((⟨#[45]⟩ : ByteArray) ++ x))) (assoc3 _ _ _) | (rw [← assoc3]; rfl)

set_option maxHeartbeats 1000000 in
theorem implNumText (v : V) (A : Option Addr) (cap : Nat) (w : World) (hf : v.fits) (hw : v.weight ≤ 1048576) (hP : Pow10 w) (hT : Tabs w) (hat : Vs.at_ w 0 w.heap.size v.kids A) :
    Calls Tryz.prog 35 #[v.agg A cap] w fun e w' => e = .returned (.string (numTextB v)) ∧ Below w.heap.size w w' := by
  have HA := Lib.hid hat
  have HF := Lib.hid hf
  have HT := Lib.hid hT
  have HP := Lib.hid hP
  clear hat hf hT hP
  unfold V.agg
  go_enter Tryz.func35, Tryz.ntmps35
  go_wp2_with fail
  have b0 : Below w.heap.size w (w.alloc (.cells #[.int .i64 v.k, .int .i64 v.n, .int .i64 v.e, .string v.s, .slice A v.kids.length cap] 43)) := (Below.refl _ w).alloc (Nat.le_refl _) _
  have B0 := Blk.new w 43 #[.int .i64 v.k, .int .i64 v.n, .int .i64 v.e, .string v.s, .slice A v.kids.length cap]
  refine (implIs v A cap _ hw (HT.out.below b0) (Vs.at_more (Nat.le_refl _) b0.size _ _ (Vs.at_below HA.out b0 (Nat.le_refl _)))).mono ?_
  rintro e w1 ⟨rfl, hb1⟩
  have B1 := B0.below hb1 (by simp)
  obtain ⟨p0, p1, p2, p3, p4⟩ := B1.five
  have b1 : Below w.heap.size w w1 := b0.trans (hb1.mono b0.size)
  clear hb1 b0 B0
  by_cases hv : numOk v
  · rw [show decide (numOk v) = true from decide_eq_true hv]
    have HV := Lib.hid hv
    clear hv
    go_wp2_with fail
    refine (implNumTxt v A cap w1 HF.out HV.out (HP.out.below b1 (Nat.le_refl _))).mono ?_
    rintro e w2 ⟨rfl, hb2⟩
    go_wp2_with fail
    go_ret
    exact ⟨rfl, b1.trans (hb2.mono b1.size)⟩
  · rw [show decide (numOk v) = false from decide_eq_false hv]
    have HN : Hid (numTextB v = ⟨#[]⟩) := Lib.hid (by
      unfold numTextB
      by_cases h : okV v
      · have h3 : ¬ v.k = 3 := fun h1 => hv ⟨.inl h1, h⟩
        have h4 : ¬ v.k = 4 := fun h1 => hv ⟨.inr h1, h⟩
        rw [if_pos h, if_neg h3, if_neg h4]
      · rw [if_neg h])
    clear hv
    go_wp2_with fail
    go_ret
    exact ⟨congrArg (fun x => Ending.returned (.string x)) HN.out.symm, b1⟩
end Go.Proofs.YtbfddabljkoapaaGreatDoor

/-
  ReadNum, plainly: the program's way.
-/
namespace Go.Proofs.YtbfddabljkoapaaGreatDoor
open Go.RowKit
set_option linter.unusedVariables false
set_option linter.unusedSimpArgs false

theorem piece_join {s : ByteArray} {i j k : Nat} (h1 : i ≤ j) (h2 : j ≤ k) : piece s i (k - i) = piece s i (j - i) ++ piece s j (k - j) := by
  unfold piece
  rw [show k - i = (j - i) + (k - j) by omega, List.take_add, List.drop_drop, show i + (j - i) = j by omega]
theorem exp_shape {s : ByteArray} {b d : Nat} (hb : b ≤ s.size) (hd : expN s b = d) (hlt : b < d) : ∃ x sg DD, ExpOf (piece s b (d - b)) x sg DD := by
  have hx : b < s.size ∧ ((s.get! b).toNat = 101 ∨ (s.get! b).toNat = 69) ∧ expK s b < runN s (expK s b) := by
    refine Classical.byContradiction fun hn => ?_
    unfold expN at hd
    rw [if_neg hn] at hd
    omega
  have hdr : d = runN s (expK s b) := by
    rw [← hd]; unfold expN; rw [if_pos hx]
  have hk := expK_le hx.1
  have hr := runN_ge (s := s) (i := expK s b) hk.2.1
  refine ⟨s.get! b, piece s (b + 1) (expK s b - (b + 1)), piece s (expK s b) (d - expK s b), ?_, hx.2.1, ?_, ?_, ?_⟩
  · rw [show d - b = (d - (b + 1)) + 1 by omega, piece_cons hx.1, piece_join (s := s) (i := b + 1) (j := expK s b) (k := d) (by omega) (by omega)]
  · by_cases h : b + 1 < s.size ∧ ((s.get! (b + 1)).toNat = 43 ∨ (s.get! (b + 1)).toNat = 45)
    · have e : expK s b = b + 2 := if_pos h
      rw [e, show b + 2 - (b + 1) = 0 + 1 by omega, piece_cons h.1, piece_zero]
      rcases h.2 with h2 | h2
      · right; left
        rw [show s.get! (b + 1) = 43 from UInt8.toNat_inj.1 h2]
      · right; right
        rw [show s.get! (b + 1) = 45 from UInt8.toNat_inj.1 h2]
    · have e : expK s b = b + 1 := if_neg h
      rw [e, Nat.sub_self, piece_zero]
      exact .inl rfl
  · intro h
    have := congrArg List.length h
    rw [piece_len _ _ _ (by omega)] at this
    simp only [List.length_nil] at this
    omega
  · exact piece_dig hk.2.1 _ (by omega)
/-- The program's exponent. -/
def ExpIs (l : List UInt8) (ex : Int) : Prop := (l = [] ∧ ex = 0) ∨ ∃ x sg DD, ExpOf l x sg DD ∧ ex = expI sg DD
theorem expIs_range {l : List UInt8} {ex : Int} (h : ExpIs l ex) : -100000 ≤ ex ∧ ex ≤ 100000 := by
  rcases h with ⟨_, rfl⟩ | ⟨x, sg, DD, h, rfl⟩
  · omega
  · have := (pow_close h).2; omega
theorem numG_impl {neg : Bool} {D l : List UInt8} {ex : Int} {fl : Nat} (h : ExpIs l ex) (hD : D.length ≤ 100) (hfl : fl ≤ 100) :
    numG neg D (powS l - (fl : Int)) = if 18 < (numT D).length then none else normR (sgnV neg (dval (numT D))) (ex - (fl : Int) + ((dropZ D).length : Int) - ((numT D).length : Int)) := by
  have h1 := dropZ_len D
  have h2 : (numT D).length ≤ (dropZ D).length := cutZ_len _
  unfold numG
  split
  · rfl
  · have e1 : powS l - (fl : Int) + (((dropZ D).length - (numT D).length : Nat) : Int) = powS l - (fl : Int) + ((dropZ D).length : Int) - ((numT D).length : Int) := by omega
    rw [e1]
    rcases h with ⟨rfl, rfl⟩ | ⟨x, sg, DD, h, rfl⟩
    · rw [powS_nil]
    · have hc := pow_close h
      rcases hc.1 with he | ⟨ha, hb⟩
      · rw [he]
      · rw [normR_out (by omega), normR_out (by omega)]
theorem cut_sign {s : ByteArray} {i a : Nat} (hi : i < s.size) (ha : i < a) (hfa : fAt s i ≤ a) : Lib.trimPrefix (piece s i (a - i)) [45] = piece s (fAt s i) (a - fAt s i) ∧ Lib.hasPrefix (piece s i (a - i)) [45] = decide (i < fAt s i) := by
  obtain ⟨m, hm⟩ : ∃ m, a - i = m + 1 := ⟨a - i - 1, by omega⟩
  rw [hm, piece_cons hi]
  by_cases h : (s.get! i).toNat = 45
  · have e : fAt s i = i + 1 := if_pos h
    have e2 : s.get! i = 45 := UInt8.toNat_inj.1 h
    rw [e, e2, show a - (i + 1) = m by omega]
    refine ⟨by simp [Lib.trimPrefix, Lib.hasPrefix, List.isPrefixOf], by simp [Lib.hasPrefix, List.isPrefixOf]⟩
  · have e : fAt s i = i := if_neg h
    have e2 : ¬ (45 : UInt8) = s.get! i := fun h2 => h (by rw [← h2]; rfl)
    rw [e, hm, piece_cons hi]
    refine ⟨by simp [Lib.trimPrefix, Lib.hasPrefix, List.isPrefixOf, e2], by simp [Lib.hasPrefix, List.isPrefixOf, e2]⟩
theorem cut_point {s : ByteArray} {a b : Nat} (ha : a ≤ s.size) (hb : fracN s a = b) : Lib.trimPrefix (piece s a (b - a)) [46] = if a < b then piece s (a + 1) (b - (a + 1)) else [] := by
  by_cases h : a < b
  · have hfr : a < s.size ∧ (s.get! a).toNat = 46 ∧ a + 1 < runN s (a + 1) := by
      refine Classical.byContradiction fun hn => ?_
      unfold fracN at hb
      rw [if_neg hn] at hb
      omega
    obtain ⟨m, hm⟩ : ∃ m, b - a = m + 1 := ⟨b - a - 1, by omega⟩
    have e2 : s.get! a = 46 := UInt8.toNat_inj.1 hfr.2.1
    rw [if_pos h, hm, piece_cons hfr.1, e2, show b - (a + 1) = m by omega]
    simp [Lib.trimPrefix, Lib.hasPrefix, List.isPrefixOf]
  · rw [if_neg h]
    have : b - a = 0 := by omega
    rw [this, piece_zero]
    simp [Lib.trimPrefix, Lib.hasPrefix, List.isPrefixOf]
theorem rnO_none {s : ByteArray} {i f a b d : Nat} (h60 : ¬ 60 < d - i) (h : readZ (s.extract i d) = none) : rnO s i f a b d = numG (decide (i < f)) (dgs s f a b) (powS (piece s b (d - b)) - ((b - (a + 1) : Nat) : Int)) := by
  unfold rnO
  rw [if_neg h60, h]
  rfl
theorem rnO_some {s : ByteArray} {i f a b d : Nat} {n : Int} (h60 : ¬ 60 < d - i) (h : readZ (s.extract i d) = some n) : rnO s i f a b d = some (V.int n) := by
  unfold rnO
  rw [if_neg h60, h]
end Go.Proofs.YtbfddabljkoapaaGreatDoor
