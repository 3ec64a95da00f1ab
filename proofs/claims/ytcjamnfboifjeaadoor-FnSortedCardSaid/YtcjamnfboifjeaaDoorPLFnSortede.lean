/-
  The texts on which the last one leans, part 5: ImplSame, CmpL, InsR, RotR, SymA, SymB, SymC, StabR, SortR.
-/
import Derived.Test.YtcjamnfboifjeaaDoorPLFnSortedd
import Derived.Shelf.Abstract
import Derived.StillTailTactics
import Derived.BigQuiet
import Derived.Deep.QuietTactic
/-
  The program's Same.
-/
namespace Go.Proofs.YtcjamnfboifjeaaDoor
open Go.RowKit
set_option linter.unusedVariables false
set_option maxRecDepth 100000
set_option linter.unusedSimpArgs false

def ImplSameSaid (a : V) : Prop := ∀ (b : V) (A B : Option Addr) (ca cb : Nat) (w : World), a.nodes ≤ 1048577 → b.nodes ≤ 1048577 → Vs.at_ w 0 w.heap.size a.kids A → Vs.at_ w 0 w.heap.size b.kids B →
    Calls Tryd.prog 19 #[a.agg A ca, b.agg B cb] w fun e w' => e = .returned (.bool (V.same a b)) ∧ Below w.heap.size w w'

theorem sameEnters : ∀ (args : Array Value) (w : World), (callFunc 19 args).run Tryd.prog w = .ok (.enter 19 args) w :=
  enters_of Tryd.func19 (by kernel_rfl) rfl

/-- Are two rows the same? -/
def Vs.same (l m : List V) : Bool := decide (l.length = m.length ∧ Vs.cmp l m = 0)

theorem V.ord_iff (a b : V) : V.ord a b = 0 ↔ a.k = b.k ∧ a.n = b.n ∧ a.e = b.e ∧ a.s = b.s ∧ a.kids.length = b.kids.length := by
  constructor
  · intro h
    have h1 := orN_all _ 5 h
    refine ⟨lessI_zero (h1 0 (by omega)), lessI_zero (h1 1 (by omega)), lessI_zero (h1 2 (by omega)), lessT_zero (h1 3 (by omega)), ?_⟩
    have := lessI_zero (h1 4 (by omega))
    omega
  · rintro ⟨h1, h2, h3, h4, h5⟩
    refine orN_zero _ 5 fun i hi => ?_
    rcases (show i = 0 ∨ i = 1 ∨ i = 2 ∨ i = 3 ∨ i = 4 by omega) with rfl | rfl | rfl | rfl | rfl
    · show lessI a.k b.k = 0; rw [h1]; exact lessI_eq _
    · show lessI a.n b.n = 0; rw [h2]; exact lessI_eq _
    · show lessI a.e b.e = 0; rw [h3]; exact lessI_eq _
    · show lessT a.s b.s = 0; rw [h4]; exact lessT_eq _
    · show lessI a.kids.length b.kids.length = 0; rw [h5]; exact lessI_eq _
theorem V.same_no {a b : V} (h : V.ord a b ≠ 0) : V.same a b = false := by
  unfold V.same
  rw [V.cmp_ord h]
  exact decide_eq_false h
theorem V.same_yes {a b : V} (h1 : a.k = b.k) (h2 : a.n = b.n) (h3 : a.e = b.e) (h4 : a.s = b.s) : V.same a b = Vs.same a.kids b.kids := by
  by_cases h : a.kids.length = b.kids.length
  · have h0 : V.ord a b = 0 := (V.ord_iff a b).2 ⟨h1, h2, h3, h4, h⟩
    unfold V.same Vs.same
    rw [V.cmp_zero h0]
    simp [h]
  · rw [V.same_no (fun h0 => h ((V.ord_iff a b).1 h0).2.2.2.2)]
    unfold Vs.same
    simp [h]
theorem text_eq {a b : ByteArray} (h : (a.toList == b.toList) = true) : a = b := by
  have h3 := eq_of_beq h
  rw [ByteArray.toList_eq, ByteArray.toList_eq] at h3
  cases a; cases b
  simp only [ByteArray.mk.injEq]
  exact Array.toList_inj.1 h3

set_option maxHeartbeats 4000000 in
theorem sameFunc (l m : List V) (hk : ∀ i (h : i < l.length), ImplSameSaid l[i]) (A B : Option Addr) (ca cb : Nat) (w : World) (hn : Vs.nodes l ≤ 1048576) (hm : Vs.nodes m ≤ 1048576) (hat : Vs.at_ w 0 w.heap.size l A) (hbt : Vs.at_ w 0 w.heap.size m B) :
    Calls Tryd.prog 62 #[.slice A l.length ca, .slice B m.length cb, .func (Fn.func 19) #[] #[]] w fun e w' => e = .returned (.bool (Vs.same l m)) ∧ Below w.heap.size w w' := by
  have hl : l.length ≤ 1048576 := by have := Vs.len_nodes l; omega
  have hl2 : m.length ≤ 1048576 := by have := Vs.len_nodes m; omega
  have HK := fun (i : Nat) (h : i < l.length) (h2 : i < m.length) (A' B' : Option Addr) (c c' : Nat) (w' : World) (h1 : Vs.at_ w' 0 w'.heap.size (l[i]).kids A') (h2' : Vs.at_ w' 0 w'.heap.size (m[i]).kids B') => hk i h m[i] A' B' c c' w' (by have := Vs.nodes_get i h; omega) (by have := Vs.nodes_get i h2; omega) h1 h2'
  have HC := Lib.hid HK
  clear HK hk
  have HA := Lib.hid hat
  have HB := Lib.hid hbt
  have HS := Lib.hid (Vs.cmp_first l m)
  have HN := Lib.hid (Vs.cmp_none l m)
  have hE := sameEnters
  clear hat hbt
  by_cases hlen : l.length = m.length
  · have HL := Lib.hid hlen
    rw [← hlen]
    clear hlen
    go_enter Tryd.func62, Tryd.ntmps62
    go_wp2_with fail
    go_loopw [17] (fun i wr => ∃ j : Nat, j ≤ l.length ∧ i = .int .i64 j ∧ (∀ k (h1 : k < l.length) (h2 : k < m.length), k < j → V.cmp l[k] m[k] = 0) ∧ Below w.heap.size w wr) (fun i _ => l.length - (intOf i).toNat)
    case atStart => exact ⟨0, Nat.zero_le _, rfl, fun k _ _ hk => by omega, Below.refl _ _⟩
    case round =>
      obtain ⟨j, hj, rfl, hz, hb⟩ := hrel
      have HH := Lib.hid hz
      clear hz
      by_cases hlt : j < l.length
      · have hlt2 : j < m.length := by have := HL.out; omega
        obtain ⟨g, off, A', cap', rfl, g1, g2, g3, ⟨c0, c1, c2, c3, c4⟩, g5⟩ := Vs.at_get j hlt (Vs.at_below HA.out hb (Nat.le_refl _))
        obtain ⟨g', off2, A2', cap2', rfl, g12, g22, g32, ⟨d0, d1, d2, d3, d4⟩, g52⟩ := Vs.at_get j hlt2 (Vs.at_below HB.out hb (Nat.le_refl _))
        have HJ := Lib.hid (HS.out j hlt hlt2 HH.out)
        have hbs := hb.size
        have hg2 : g' < wr.heap.size := by omega
        go_wp2_with fail
        refine (HC.out j hlt hlt2 A' A2' cap' cap2' _ (Vs.at_more (Nat.le_refl _) (by simp; omega) _ _ (Vs.at_alloc (Vs.at_alloc g5 hb.size _) (by simp; omega) _)) (Vs.at_more (Nat.le_refl _) (by simp; omega) _ _ (Vs.at_alloc (Vs.at_alloc g52 hb.size _) (by simp; omega) _))).mono ?_
        rintro e w1 ⟨rfl, hb1⟩
        have hbw : Below w.heap.size w w1 := ((hb.alloc hb.size _).alloc (by simp; omega) _).trans (hb1.mono (by simp; omega))
        clear c0 c1 c2 c3 c4 d0 d1 d2 d3 d4
        by_cases h0 : V.cmp l[j] m[j] = 0
        · have H0 := Lib.hid h0
          rw [show V.same l[j] m[j] = true from decide_eq_true h0]
          clear h0
          go_wp2_with fail
          go_roundw
          case rel => exact ⟨j + 1, by omega, by go_num, fun k h1 h2 hk => by
            by_cases hk2 : k = j
            · subst hk2; exact H0.out
            · exact HH.out k h1 h2 (by omega), hbw⟩
          case measure => simp [intOf]; omega
        · rw [show V.same l[j] m[j] = false from decide_eq_false h0]
          go_wp2_with fail
          go_ret
          exact ⟨ret_bool (by unfold Vs.same; rw [HJ.out h0]; exact (decide_eq_false fun h => h0 h.2).symm), hbw⟩
      · obtain rfl : j = l.length := by omega
        go_wp2_with fail
        go_ret
        exact ⟨ret_bool (by unfold Vs.same; exact (decide_eq_true ⟨HL.out, HN.out fun k h1 h2 => HH.out k h1 h2 h1⟩).symm), hb⟩
  · have HL := Lib.hid hlen
    go_enter Tryd.func62, Tryd.ntmps62
    go_wp2_with fail
    go_ret
    exact ⟨ret_bool (by unfold Vs.same; exact (decide_eq_false fun h => HL.out h.1).symm), Below.refl _ _⟩

set_option maxHeartbeats 4000000 in
theorem implSame_step (a : V) (hk : ∀ i (h : i < a.kids.length), ImplSameSaid a.kids[i]) : ImplSameSaid a := by
  intro b A B ca cb w hn hm hat hbt
  rw [V.nodes_eq] at hn hm
  have HC := Lib.hid (sameFunc a.kids b.kids hk)
  clear hk
  have HA := Lib.hid hat
  have HB := Lib.hid hbt
  clear hat hbt
  unfold V.agg
  have HN : ∀ h : V.ord a b ≠ 0, V.same a b = false := V.same_no
  have HO := Lib.hid (V.ord_iff a b)
  have HNN := Lib.hid HN
  clear HN
  by_cases h1 : (a.k == b.k) = true
  · by_cases h2 : (a.n == b.n) = true
    · by_cases h3 : (a.e == b.e) = true
      · by_cases h4 : (a.s.toList == b.s.toList) = true
        · have HY := Lib.hid (V.same_yes (eq_of_beq h1) (eq_of_beq h2) (eq_of_beq h3) (text_eq h4))
          go_enter Tryd.func19, Tryd.ntmps19
          go_wp2_with fail
          obtain ⟨w2, hw2, Ba, Bb, b1, z2⟩ := two_new w 28 28 #[.int .i64 a.k, .int .i64 a.n, .int .i64 a.e, .string a.s, .slice A a.kids.length ca] #[.int .i64 b.k, .int .i64 b.n, .int .i64 b.e, .string b.s, .slice B b.kids.length cb]
          rw [← hw2]
          clear hw2
          refine (HC.out A B ca cb w2 (by omega) (by omega) (Vs.at_more (Nat.le_refl _) b1.size _ _ (Vs.at_below HA.out b1 (Nat.le_refl _))) (Vs.at_more (Nat.le_refl _) b1.size _ _ (Vs.at_below HB.out b1 (Nat.le_refl _)))).mono ?_
          rintro e w4 ⟨rfl, hb4⟩
          have b6 := b1.trans (hb4.mono b1.size)
          go_wp2_with fail
          go_ret
          exact ⟨ret_bool (by rw [HY.out]), b6⟩
        · have HY := Lib.hid (HNN.out fun h => h4 (by rw [(HO.out.1 h).2.2.2.1]; exact beq_self_eq_true _))
          have h4' : (a.s.toList == b.s.toList) = false := by simpa using h4
          clear h4
          go_enter Tryd.func19, Tryd.ntmps19
          go_wp2_with fail
          go_ret
          exact ⟨ret_bool (by rw [HY.out]), ((Below.refl _ w).alloc (Nat.le_refl _) _).alloc (by simp) _⟩
      · have HY := Lib.hid (HNN.out fun h => h3 (by rw [(HO.out.1 h).2.2.1]; exact beq_self_eq_true _))
        have h3' : (a.e == b.e) = false := by simpa using h3
        clear h3
        go_enter Tryd.func19, Tryd.ntmps19
        go_wp2_with fail
        go_ret
        exact ⟨ret_bool (by rw [HY.out]), ((Below.refl _ w).alloc (Nat.le_refl _) _).alloc (by simp) _⟩
    · have HY := Lib.hid (HNN.out fun h => h2 (by rw [(HO.out.1 h).2.1]; exact beq_self_eq_true _))
      have h2' : (a.n == b.n) = false := by simpa using h2
      clear h2
      go_enter Tryd.func19, Tryd.ntmps19
      go_wp2_with fail
      go_ret
      exact ⟨ret_bool (by rw [HY.out]), ((Below.refl _ w).alloc (Nat.le_refl _) _).alloc (by simp) _⟩
  · have HY := Lib.hid (HNN.out fun h => h1 (by rw [(HO.out.1 h).1]; exact beq_self_eq_true _))
    have h1' : (a.k == b.k) = false := by simpa using h1
    clear h1
    go_enter Tryd.func19, Tryd.ntmps19
    go_wp2_with fail
    go_ret
    exact ⟨ret_bool (by rw [HY.out]), ((Below.refl _ w).alloc (Nat.le_refl _) _).alloc (by simp) _⟩
theorem implSame (a : V) : ImplSameSaid a := V.all implSame_step a
end Go.Proofs.YtcjamnfboifjeaaDoor

/-
  The order of two values is one order.
-/
namespace Go.Proofs.YtcjamnfboifjeaaDoor
open Go.RowKit
set_option linter.unusedVariables false
set_option linter.unusedSimpArgs false

/-- What three comparisons of three things obey. -/
def Tri (x y z : Int) : Prop := (x ≤ 0 → y ≤ 0 → z ≤ 0) ∧ (x ≤ 0 → y < 0 → z < 0) ∧ (x < 0 → y ≤ 0 → z < 0) ∧ (x = 0 → y = 0 → z = 0)
theorem tri_lex {x y z x' y' z' : Int} (h : Tri x y z) (h' : x = 0 → y = 0 → Tri x' y' z') : Tri (if x = 0 then x' else x) (if y = 0 then y' else y) (if z = 0 then z' else z) := by
  by_cases hx : x = 0
  · by_cases hy : y = 0
    · have hz := h.2.2.2 hx hy
      rw [if_pos hx, if_pos hy, if_pos hz]
      exact h' hx hy
    · rw [if_pos hx, if_neg hy]
      unfold Tri at *
      split <;> omega
  · rw [if_neg hx]
    unfold Tri at *
    split <;> split <;> omega
theorem tri_less (a b c : Int) : Tri (lessI a b) (lessI b c) (lessI a c) := by
  unfold Tri lessI
  repeat' split
  all_goals omega
theorem bl_cons (a b : UInt8) (l m : List UInt8) : Op.bytesLess (a :: l) (b :: m) = true ↔ a.toNat < b.toNat ∨ (a = b ∧ Op.bytesLess l m = true) := by
  by_cases h1 : a.toNat < b.toNat
  · have : a < b := UInt8.lt_iff_toNat_lt.2 h1
    simp [Op.bytesLess, this, h1]
  · have h2 : ¬ a < b := fun h => h1 (UInt8.lt_iff_toNat_lt.1 h)
    by_cases h3 : a = b
    · subst h3; simp [Op.bytesLess]
    · simp [Op.bytesLess, h1, h2, h3]
theorem bl_nil (l : List UInt8) : Op.bytesLess l [] = true ↔ False := by
  cases l <;> simp [Op.bytesLess]
theorem bl_trans : ∀ a b c : List UInt8, Op.bytesLess a b = true → Op.bytesLess b c = true → Op.bytesLess a c = true
  | a, b, [], _, h => absurd h (by simp [bl_nil])
  | a, [], c :: cs, h, _ => absurd h (by simp [bl_nil])
  | [], b :: bs, c :: cs, _, _ => rfl
  | a :: la, b :: lb, c :: lc, h, k => by
    rw [bl_cons] at *
    rcases h with h | ⟨rfl, h⟩
    · rcases k with k | ⟨rfl, k⟩
      · left; omega
      · exact .inl h
    · rcases k with k | ⟨rfl, k⟩
      · exact .inl k
      · exact .inr ⟨rfl, bl_trans la lb lc h k⟩
theorem tri_text (a b c : ByteArray) : Tri (lessT a b) (lessT b c) (lessT a c) := by
  have e : ∀ x y : ByteArray, (lessT x y = -1 ∧ Op.bytesLess x.toList y.toList = true) ∨ (lessT x y = 0 ∧ x.toList = y.toList) ∨ (lessT x y = 1 ∧ Op.bytesLess y.toList x.toList = true) := fun x y => by
    unfold lessT
    rcases bl_tri x.toList y.toList with ⟨h1, h2, h3⟩ | ⟨h1, h2, h3⟩ | ⟨h1, h2, h3⟩
    · left; rw [h1]; simp
    · right; left; rw [h1, h3]; simp
    · right; right; rw [h1, h2]; simp [h3]
  have t := bl_trans a.toList b.toList c.toList
  have hs := bytesLess_self a.toList
  rcases e a b with ⟨h1, h2⟩ | ⟨h1, h2⟩ | ⟨h1, h2⟩
  · rcases e b c with ⟨k1, k2⟩ | ⟨k1, k2⟩ | ⟨k1, k2⟩
    · have := t h2 k2
      rcases e a c with ⟨m1, m2⟩ | ⟨m1, m2⟩ | ⟨m1, m2⟩
      · unfold Tri; omega
      · rw [← m2] at this; rw [hs] at this; cases this
      · have := bl_trans _ _ _ this m2; rw [hs] at this; cases this
    · have : lessT a c = -1 := by unfold lessT; rw [← k2, h2]; rfl
      unfold Tri; omega
    · unfold Tri; omega
  · have : lessT a c = lessT b c := by unfold lessT; rw [h2]
    unfold Tri; omega
  · unfold Tri; omega
theorem orN_tri {f g h : Nat → Int} : ∀ n, (∀ i, i < n → Tri (f i) (g i) (h i)) → Tri (orN f n) (orN g n) (orN h n)
  | 0, _ => by unfold Tri orN; omega
  | n + 1, k => by
    unfold orN
    exact tri_lex (orN_tri n (fun i hi => k i (by omega))) (fun _ _ => k n (by omega))
theorem V.ord_tri (a b c : V) : Tri (V.ord a b) (V.ord b c) (V.ord a c) := by
  refine orN_tri 5 fun i hi => ?_
  rcases (show i = 0 ∨ i = 1 ∨ i = 2 ∨ i = 3 ∨ i = 4 by omega) with rfl | rfl | rfl | rfl | rfl
  · exact tri_less _ _ _
  · exact tri_less _ _ _
  · exact tri_less _ _ _
  · exact tri_text _ _ _
  · exact tri_less _ _ _
theorem orN_swap {f g : Nat → Int} : ∀ n, (∀ i, i < n → g i = - f i) → orN g n = - orN f n
  | 0, _ => rfl
  | n + 1, h => by
    have ih := orN_swap n (fun i hi => h i (by omega))
    have hn := h n (by omega)
    unfold orN
    by_cases h0 : orN f n = 0
    · rw [if_pos h0, if_pos (by omega), hn]
    · rw [if_neg h0, if_neg (by omega), ih]
theorem V.ord_swap (a b : V) : V.ord b a = - V.ord a b := by
  refine orN_swap 5 fun i hi => ?_
  rcases (show i = 0 ∨ i = 1 ∨ i = 2 ∨ i = 3 ∨ i = 4 by omega) with rfl | rfl | rfl | rfl | rfl
  · exact lessI_swap _ _
  · exact lessI_swap _ _
  · exact lessI_swap _ _
  · exact lessT_swap _ _
  · exact lessI_swap _ _
theorem V.cmp_eq (a b : V) : V.cmp a b = if V.ord a b = 0 then Vs.cmp a.kids b.kids else V.ord a b := by
  by_cases h : V.ord a b = 0
  · rw [if_pos h, V.cmp_zero h]
  · rw [if_neg h, V.cmp_ord h]
theorem Vs.cmp_swap : ∀ (l m : List V), (∀ i (h : i < l.length), ∀ b, V.cmp b l[i] = - V.cmp l[i] b) → Vs.cmp m l = - Vs.cmp l m
  | [], m, _ => by rw [Vs.cmp_nil]; simp only [Vs.cmp]; rfl
  | a :: l, [], _ => by rw [Vs.cmp_nil]; simp only [Vs.cmp]; rfl
  | a :: l, b :: m, h => by
    have h0 := h 0 (by simp) b
    rw [List.getElem_cons_zero] at h0
    have ih := Vs.cmp_swap l m (fun i hi b => by have := h (i + 1) (by simpa using hi) b; simpa using this)
    rw [Vs.cmp_cons, Vs.cmp_cons]
    by_cases hz : V.cmp a b = 0
    · rw [if_pos hz, if_pos (by omega), ih]
    · rw [if_neg hz, if_neg (by omega), h0]
theorem V.cmp_swap (a : V) : ∀ b, V.cmp b a = - V.cmp a b := by
  refine V.all (P := fun a => ∀ b, V.cmp b a = - V.cmp a b) (fun a hk b => ?_) a
  have h1 := V.ord_swap a b
  rw [V.cmp_eq, V.cmp_eq a b]
  by_cases hz : V.ord a b = 0
  · rw [if_pos hz, if_pos (by omega)]
    exact Vs.cmp_swap _ _ hk
  · rw [if_neg hz, if_neg (by omega), h1]
theorem V.cmp_self (a : V) : V.cmp a a = 0 := by
  have := V.cmp_swap a a
  omega
theorem V.same_self (a : V) : V.same a a = true := by unfold V.same; exact decide_eq_true (V.cmp_self a)
theorem Vs.cmp_tri : ∀ (l m n : List V), l.length = m.length → m.length = n.length → (∀ i (h : i < l.length), ∀ b c, Tri (V.cmp l[i] b) (V.cmp b c) (V.cmp l[i] c)) → Tri (Vs.cmp l m) (Vs.cmp m n) (Vs.cmp l n)
  | [], [], [], _, _, _ => by simp only [Vs.cmp]; unfold Tri; omega
  | [], [], c :: n, _, h, _ => by simp at h
  | [], b :: m, n, h, _, _ => by simp at h
  | a :: l, [], n, h, _, _ => by simp at h
  | a :: l, b :: m, [], _, h, _ => by simp at h
  | a :: l, b :: m, c :: n, h1, h2, h => by
    have h0 := h 0 (by simp) b c
    rw [List.getElem_cons_zero] at h0
    have ih := Vs.cmp_tri l m n (by simpa using h1) (by simpa using h2) (fun i hi b c => by have := h (i + 1) (by simpa using hi) b c; simpa using this)
    rw [Vs.cmp_cons, Vs.cmp_cons, Vs.cmp_cons]
    exact tri_lex h0 (fun _ _ => ih)
/-- Values are in one order. -/
theorem V.cmp_tri (a : V) : ∀ b c, Tri (V.cmp a b) (V.cmp b c) (V.cmp a c) := by
  refine V.all (P := fun a => ∀ b c, Tri (V.cmp a b) (V.cmp b c) (V.cmp a c)) (fun a hk b c => ?_) a
  rw [V.cmp_eq a b, V.cmp_eq b c, V.cmp_eq a c]
  refine tri_lex (V.ord_tri a b c) fun h1 h2 => ?_
  exact Vs.cmp_tri _ _ _ (V.ord_len h1) (V.ord_len h2) hk
end Go.Proofs.YtcjamnfboifjeaaDoor

/-
  Pairs in order by their keys: the order of two keys; a run of pairs sorted by insertion.
-/
namespace Go.Proofs.YtcjamnfboifjeaaDoor
open Go.RowKit
set_option linter.unusedVariables false
set_option linter.unusedSimpArgs false
set_option maxRecDepth 100000

theorem keyEnters : ∀ (args : Array Value) (w : World), (callFunc 76 args).run Tryd.prog w = .ok (.enter 76 args) w :=
  enters_of Tryd.func76 (by kernel_rfl) rfl
/-- The order of two pairs. -/
def kc (x y : PEnt) : Int := V.cmp x.1.1 y.1.1
def kle (x y : PEnt) : Prop := kc x y ≤ 0
def leafP (x : PEnt) : Prop := x.1.1.kids = []
theorem kc_swap (x y : PEnt) : kc y x = - kc x y := V.cmp_swap _ _
theorem kc_le {x y : PEnt} (h : ¬ kc x y < 0) : kle y x := by have := kc_swap x y; unfold kle; omega
theorem kc_lt {x y : PEnt} (h : kc x y < 0) : kle x y := by unfold kle; omega
theorem kle_trans {x y z : PEnt} (h : kle x y) (k : kle y z) : kle x z := (V.cmp_tri x.1.1 y.1.1 z.1.1).1 h k
theorem leaf_nodes {v : V} (h : v.kids = []) : v.nodes ≤ 1048577 := by rw [V.nodes_eq, h]; simp [Vs.nodes]
set_option maxHeartbeats 2000000 in
theorem keyCmp (x y : PEnt) (hx : leafP x) (hy : leafP y) (w : World) :
    Calls Tryd.prog 76 #[.agg #[.int .i64 x.1.1.k, .int .i64 x.1.1.n, .int .i64 x.1.1.e, .string x.1.1.s, .slice x.1.2.1 x.1.1.kids.length x.1.2.2, .int .i64 x.2.1.k, .int .i64 x.2.1.n, .int .i64 x.2.1.e, .string x.2.1.s, .slice x.2.2.1 x.2.1.kids.length x.2.2.2], .agg #[.int .i64 y.1.1.k, .int .i64 y.1.1.n, .int .i64 y.1.1.e, .string y.1.1.s, .slice y.1.2.1 y.1.1.kids.length y.1.2.2, .int .i64 y.2.1.k, .int .i64 y.2.1.n, .int .i64 y.2.1.e, .string y.2.1.s, .slice y.2.2.1 y.2.1.kids.length y.2.2.2]] w fun e w' => e = .returned (.int .i64 (kc x y)) ∧ Below w.heap.size w w' := by
  have HC := Lib.hid (fun W => implCmp x.1.1 y.1.1 x.1.2.1 y.1.2.1 x.1.2.2 y.1.2.2 W (leaf_nodes hx) (leaf_nodes hy) (by rw [hx]; simp only [Vs.at_]) (by rw [hy]; simp only [Vs.at_]))
  clear hx hy
  unfold V.agg at HC
  go_enter Tryd.func76, Tryd.ntmps76
  go_wp2_with fail
  refine (HC.out _).mono ?_
  rintro e w1 ⟨rfl, hb1⟩
  have hbw : Below w.heap.size w w1 := (((Below.refl _ w).alloc (Nat.le_refl _) _).alloc (by simp) _).trans (hb1.mono (by simp; omega))
  clear hb1
  go_wp2_with fail
  go_ret
  exact ⟨rfl, hbw⟩
theorem ins_at {A B : List PEnt} (x : PEnt) (C : List PEnt) (h : A = B) : A ++ x :: C = B ++ x :: C := by rw [h]
theorem getAt (A C : List PEnt) (x : PEnt) : (A ++ x :: C)[A.length]? = some x := by simp
theorem set_two (A C : List PEnt) (s u : PEnt) : ((A ++ s :: u :: C).set (A.length + 1) s).set A.length u = A ++ u :: s :: C := by
  rw [List.set_append_right _ _ (by omega), show A.length + 1 - A.length = 1 by omega, List.set_cons_succ, List.set_cons_zero, List.set_append_right _ _ (Nat.le_refl _), Nat.sub_self, List.set_cons_zero]
/-- Insertion: what is at hand. -/
def InAt (g : Nat) (L S : List PEnt) (u : PEnt) (T : List PEnt) (rest : List Value) (w : World) (j : Value) (wr : World) : Prop :=
  ∃ (S1 S2 : List PEnt) (jn : Nat), j = .int .i64 (jn : Int) ∧ jn ≤ 100000 ∧ Hid (jn = L.length + S1.length) ∧ Hid (S1 ++ S2 = S) ∧ Hid (∀ s ∈ S2, kc u s < 0) ∧ Hid (PRow wr g (L ++ (S1 ++ u :: (S2 ++ T))) rest) ∧ Hid (Gr g w wr)
theorem ins_sorted {S1 S2 : List PEnt} {u : PEnt} (h : (S1 ++ S2).Pairwise kle) (h2 : ∀ s ∈ S2, kc u s < 0) (h1 : ∀ s ∈ S1, kle s u) : (S1 ++ u :: S2).Pairwise kle := by
  rw [List.pairwise_append] at h ⊢
  refine ⟨h.1, List.pairwise_cons.2 ⟨fun s hs => kc_lt (h2 s hs), h.2.1⟩, fun a ha b hb => ?_⟩
  rcases List.mem_cons.1 hb with rfl | hb
  · exact h1 a ha
  · exact h.2.2 a ha b hb
theorem last_le {S : List PEnt} {s u : PEnt} (h : (S ++ [s]).Pairwise kle) (hu : kle s u) : ∀ x ∈ S ++ [s], kle x u := by
  intro x hx
  rcases List.mem_append.1 hx with hx | hx
  · exact kle_trans ((List.pairwise_append.1 h).2.2 x hx s (by simp)) hu
  · rw [List.mem_singleton] at hx; rw [hx]; exact hu
/-- The outer loop. -/
def OutAt (g : Nat) (L X R : List PEnt) (rest : List Value) (w : World) (i : Value) (wr : World) : Prop :=
  ∃ (S U : List PEnt) (ni : Nat), i = .int .i64 (ni : Int) ∧ ni ≤ 100001 ∧ Hid (L.length < ni ∧ (ni = L.length + S.length ∨ (X = [] ∧ S = [] ∧ ni = L.length + 1))) ∧ Hid ((S ++ U).Perm X) ∧ Hid (S.Pairwise kle) ∧ Hid (PRow wr g (L ++ (S ++ (U ++ R))) rest) ∧ Hid (Gr g w wr)
set_option maxHeartbeats 4000000 in
theorem insSort (g c : Nat) (L X R : List PEnt) (rest : List Value) (w : World) (a b N : Nat) (hr : PRow w g (L ++ (X ++ R)) rest) (hX : ∀ x ∈ X, leafP x) (ha : a = L.length) (hb : b = L.length + X.length) (hN : N = L.length + X.length + R.length) (hd : N ≤ 100000) :
    Calls Tryd.prog 104 #[.slice (some ⟨g, 0, none⟩) N c, .int .i64 (a : Int), .int .i64 (b : Int), .func (Fn.func 76) #[] #[]] w fun e w' => e = .returned (.tuple #[]) ∧ ∃ Z, Z.Perm X ∧ Z.Pairwise kle ∧ PRow w' g (L ++ (Z ++ R)) rest ∧ Gr g w w' := by
  have HR := Lib.hid hr
  have HX := Lib.hid hX
  have ha2 : a ≤ 100000 := by omega
  have hb2 : b ≤ 100000 := by omega
  have HA := Lib.hid ha
  have HB := Lib.hid hb
  have HN := Lib.hid hN
  have hE := keyEnters
  clear hr hX ha hb hN
  go_enter Tryd.func104, Tryd.ntmps104
  go_wp2_with fail
  go_loopw [8] (fun i wr => OutAt g L X R rest w i wr) (fun i _ => b + 2 - (intOf i).toNat)
  case atStart =>
    cases X with
    | nil => exact ⟨[], [], a + 1, by go_num, by omega, Lib.hid ⟨by have := HA.out; omega, .inr ⟨rfl, rfl, by have := HA.out; omega⟩⟩, Lib.hid (List.Perm.refl _), Lib.hid List.Pairwise.nil, HR, Lib.hid (Gr.refl _ _)⟩
    | cons x X => exact ⟨[x], X, a + 1, by go_num, by omega, Lib.hid ⟨by have := HA.out; omega, .inl (by have := HA.out; simp; omega)⟩, Lib.hid (List.Perm.refl _), Lib.hid (List.pairwise_singleton _ _), HR, Lib.hid (Gr.refl _ _)⟩
  case round =>
    obtain ⟨S, U, ni, rfl, hni, HI, HPM, HSO, HP, HG⟩ := hrel
    by_cases hlt : ni < b
    · have hlt2 : (ni : Int) < (b : Int) := by omega
      have hlen := HPM.out.length_eq
      rw [List.length_append] at hlen
      have hS : ni = L.length + S.length := by
        rcases HI.out.2 with h | ⟨h1, h2, h3⟩
        · exact h
        · have h4 := HB.out; rw [h1] at h4; simp at h4; omega
      obtain ⟨u, U', hU⟩ : ∃ u U', U = u :: U' := by
        cases U with
        | nil => have h4 := HB.out; simp at hlen; omega
        | cons u U' => exact ⟨u, U', rfl⟩
      have HU := Lib.hid hU
      have HS := Lib.hid hS
      have hlu : leafP u := HX.out u (HPM.out.subset (by rw [hU]; simp))
      have HLU := Lib.hid hlu
      have HLS := Lib.hid (fun s (hs : s ∈ S) => HX.out s (HPM.out.subset (by simp [hs])))
      clear hlen hS hU hlu
      go_wp2_with fail
      go_loopw [9] (fun j wr2 => InAt g L S u (U' ++ R) rest w j wr2) (fun j _ => (intOf j).toNat)
      case atStart => exact ⟨S, [], ni, rfl, by omega, HS, Lib.hid (by simp), Lib.hid (fun s hs => by cases hs), Lib.hid (by have h := HP.out; rw [HU.out] at h; exact h), HG⟩
      case round =>
        obtain ⟨S1, S2, jn, rfl, hjn, HJ, HSS, HS2, HP2, HG2⟩ := hrel
        rcases List.eq_nil_or_concat S1 with hS1 | ⟨S1', s, hS1⟩
        · have hja : jn = a := by have a1 := HJ.out; rw [hS1] at a1; simp at a1; have a2 := HA.out; omega
          have qj : decide ((a : Int) < (jn : Int)) = false := decide_eq_false (by omega)
          have qjn : decide (a < jn) = false := decide_eq_false (by omega)
          have HLE : Hid (∀ s ∈ S1, kle s u) := Lib.hid (by rw [hS1]; intro s hs; cases hs)
          have hjl : (jn : Int) ≤ (a : Int) := by omega
          clear hja hS1
          go_wp2_with fail
          go_quiet (fail)
          go_wp2_with fail
          go_roundw
          case rel => exact ⟨S1 ++ u :: S2, U', ni + 1, by go_num, by omega, Lib.hid (by have a1 := HI.out.1; have a2 := HS.out; have a3 := congrArg List.length HSS.out; rw [List.length_append] at a3; exact ⟨by omega, .inl (by rw [List.length_append, List.length_cons]; omega)⟩), Lib.hid (by have h := HPM.out; rw [HU.out, ← HSS.out] at h; refine List.Perm.trans ?_ h; simp only [List.append_assoc, List.cons_append]; refine List.Perm.append_left S1 ?_; exact (List.perm_middle (l₁ := S2) (a := u) (l₂ := U')).symm), Lib.hid (ins_sorted (by rw [HSS.out]; exact HSO.out) HS2.out HLE.out), Lib.hid (by have h := HP2.out; simp only [List.append_assoc, List.cons_append] at h ⊢; exact h), Lib.hid (HG2.out.drewN _)⟩
          case measure => simp [intOf]; omega
        · rw [List.concat_eq_append] at hS1
          obtain ⟨jp, hjp⟩ : ∃ jp, jn = jp + 1 := ⟨jn - 1, by have a1 := HJ.out; rw [hS1] at a1; simp at a1; omega⟩
          subst hjp
          have hjp2 : jp = L.length + S1'.length := by have a1 := HJ.out; rw [hS1] at a1; simp at a1; omega
          have HS1 := Lib.hid hS1
          have hls : leafP s := HLS.out s (by rw [← HSS.out, hS1]; simp)
          have hPE : L ++ (S1 ++ u :: (S2 ++ (U' ++ R))) = (L ++ S1') ++ s :: u :: (S2 ++ (U' ++ R)) := by rw [hS1]; simp only [List.append_assoc, List.cons_append, List.nil_append]
          have hLl : (L ++ S1').length = jp := by rw [List.length_append]; omega
          have HPr := HP2.out
          rw [hPE] at HPr
          have hlenD : ((L ++ S1') ++ s :: u :: (S2 ++ (U' ++ R))).length = N := by
            have a1 := HN.out
            have a2 := HPM.out.length_eq
            have a3 := congrArg List.length HSS.out
            have a4 := congrArg List.length HU.out
            have a5 := congrArg List.length hS1
            simp only [List.length_append, List.length_cons, List.length_nil] at a2 a3 a4 a5 ⊢
            omega
          have e1 : ((L ++ S1') ++ s :: u :: (S2 ++ (U' ++ R)))[jp]? = some s := by rw [← hLl]; simp
          have e2 : ((L ++ S1') ++ s :: u :: (S2 ++ (U' ++ R)))[jp + 1]? = some u := by rw [← hLl, List.getElem?_append_right (by omega), show (L ++ S1').length + 1 - (L ++ S1').length = 1 by omega]; rfl
          have HSET := set_two (L ++ S1') (S2 ++ (U' ++ R)) s u
          rw [hLl] at HSET
          obtain ⟨dj, hdj⟩ : ∃ dj, (L ++ S1') ++ s :: u :: (S2 ++ (U' ++ R)) = dj := ⟨_, rfl⟩
          rw [hdj] at HPr hlenD e1 e2 HSET
          obtain ⟨hi1, e1⟩ := List.getElem?_eq_some_iff.1 e1
          obtain ⟨hi2, e2⟩ := List.getElem?_eq_some_iff.1 e2
          have HPD := Lib.hid HPr
          have HPEQ := Lib.hid (hPE.trans hdj)
          have HT1 := HPr.ten jp hi1
          have HT2 := HPr.ten (jp + 1) hi2
          rw [e1] at HT1
          rw [e2] at HT2
          obtain ⟨x0, x1, x2, x3, x4, x5, x6, x7, x8, x9⟩ := HT1
          obtain ⟨y0, y1, y2, y3, y4, y5, y6, y7, y8, y9⟩ := HT2
          have haj : (a : Int) < (jp : Int) + 1 := by have := HA.out; omega
          have qj : decide ((a : Int) < (jp : Int) + 1) = true := decide_eq_true haj
          have qjn : decide (a < jp + 1) = true := decide_eq_true (by omega)
          have hjN : (jp : Int) + 1 < (N : Int) := by omega
          have hjN1 : (jp : Int) < (N : Int) := by omega
          have htj : ((jp : Int) + 1).toNat = jp + 1 := by omega
          have p0 : (0 : Int) ≤ (jp : Int) + 1 := by omega
          have hwp : IntKind.i64.wrap (jp : Int) = (jp : Int) := by rw [IntKind.wrap_i64]; omega
          have HSW := Lib.hid (fun (W : World) (h : PRow W g dj rest) => h.swap (jp + 1) jp hi2 hi1 s u)
          rw [HSET] at HSW
          have HHI := Lib.hid (And.intro hi1 hi2)
          have HEQ := Lib.hid (And.intro e1 e2)
          have HJP := Lib.hid hjp2
          have HLSs := Lib.hid hls
          clear HPr hlenD e1 e2 HSET hdj hjp2 hLl hPE hls hS1
          go_upto_region 4 with fail
          go_still_tail 14, (by kernel_rfl)
          change wpList _ _ _ _ _ wr.drew
          go_wp2_with fail
          refine (keyCmp u s HLU.out HLSs.out wr.drew).mono ?_
          rintro e w1 ⟨rfl, hb1⟩
          clear x0 x1 x2 x3 x4 x5 x6 x7 x8 x9 y0 y1 y2 y3 y4 y5 y6 y7 y8 y9
          have HP3 := Lib.hid (show PRow w1 g dj rest from Blk.below (show Blk wr.drew g _ _ from HPD.out) hb1 (PRow.lt HPD.out))
          have HG3 := Lib.hid (HG2.out.drew.below hb1 (Nat.le_refl _))
          clear hb1
          by_cases hc : kc u s < 0
          · have qc : decide (kc u s < 0) = true := decide_eq_true hc
            have HC := Lib.hid hc
            have HT1 := HP3.out.ten jp HHI.out.1
            have HT2 := HP3.out.ten (jp + 1) HHI.out.2
            rw [HEQ.out.1] at HT1
            rw [HEQ.out.2] at HT2
            obtain ⟨x0, x1, x2, x3, x4, x5, x6, x7, x8, x9⟩ := HT1
            obtain ⟨y0, y1, y2, y3, y4, y5, y6, y7, y8, y9⟩ := HT2
            have hfz : ∀ i, w1.frozen? ⟨g, i, none⟩ = false := HP3.out.soft
            have hPQ : ∀ q r, q < 10 → r < 10 → ¬ jp * 10 + q = (jp + 1) * 10 + r := fun q r h1 h2 => by omega
            have hQP : ∀ q r, q < 10 → r < 10 → ¬ (jp + 1) * 10 + q = jp * 10 + r := fun q r h1 h2 => by omega
            have hPQ0 : ∀ r, r < 10 → ¬ jp * 10 = (jp + 1) * 10 + r := fun r h => by omega
            have hQP0 : ∀ r, r < 10 → ¬ (jp + 1) * 10 = jp * 10 + r := fun r h => by omega
            have hPQ1 : ∀ r, r < 10 → ¬ jp * 10 + r = (jp + 1) * 10 := fun r h => by omega
            have hQP1 : ∀ r, r < 10 → ¬ (jp + 1) * 10 + r = jp * 10 := fun r h => by omega
            have hPQ2 : ¬ jp * 10 = (jp + 1) * 10 := by omega
            have hQP2 : ¬ (jp + 1) * 10 = jp * 10 := by omega
            clear hc
            go_upto_region 6 with fail
            go_region
            clear hPQ hQP hPQ0 hQP0 hPQ1 hQP1 hPQ2 hQP2 x0 x1 x2 x3 x4 x5 x6 x7 x8 x9 y0 y1 y2 y3 y4 y5 y6 y7 y8 y9 hfz
            have HRES := Lib.hid (HSW.out w1 HP3.out)
            have HG4 := Lib.hid ((HG3.out.trans (st10_gr w1 g ((jp + 1) * 10) s)).trans (st10_gr _ g (jp * 10) u))
            obtain ⟨W, hW⟩ : ∃ W, W = st10 (st10 w1 g ((jp + 1) * 10) s) g (jp * 10) u := ⟨_, rfl⟩
            rw [← hW] at HRES HG4
            unfold st10 at hW
            rw [← hW]
            clear hW
            go_wp2_with fail
            go_roundw
            case rel => exact ⟨S1', s :: S2, jp, by go_num, by omega, HJP, Lib.hid (by rw [← HSS.out, HS1.out]; simp), Lib.hid (by intro x hx; rcases List.mem_cons.1 hx with rfl | hx; exact HC.out; exact HS2.out x hx), Lib.hid (by have h := HRES.out; simp only [List.append_assoc, List.cons_append] at h ⊢; exact h), Lib.hid HG4.out.drew⟩
            case measure => simp [intOf]; try omega
          · have qc : decide (kc u s < 0) = false := decide_eq_false hc
            have HLE : Hid (∀ s ∈ S1, kle s u) := Lib.hid (by
              have h := HSO.out
              rw [← HSS.out, List.pairwise_append, HS1.out] at h
              rw [HS1.out]
              exact last_le h.1 (kc_le hc))
            have HPL := Lib.hid (by have h := HP3.out; rw [← HPEQ.out] at h; exact h)
            clear hc
            go_wp2_with fail
            go_roundw
            case rel => exact ⟨S1 ++ u :: S2, U', ni + 1, by go_num, by omega, Lib.hid (by have a1 := HI.out.1; have a2 := HS.out; have a3 := congrArg List.length HSS.out; rw [List.length_append] at a3; exact ⟨by omega, .inl (by rw [List.length_append, List.length_cons]; omega)⟩), Lib.hid (by have h := HPM.out; rw [HU.out, ← HSS.out] at h; refine List.Perm.trans ?_ h; simp only [List.append_assoc, List.cons_append]; refine List.Perm.append_left S1 ?_; exact (List.perm_middle (l₁ := S2) (a := u) (l₂ := U')).symm), Lib.hid (ins_sorted (by rw [HSS.out]; exact HSO.out) HS2.out HLE.out), Lib.hid (by have h := (show PRow w1 g (L ++ (S1 ++ u :: (S2 ++ (U' ++ R)))) rest from HPL.out); simp only [List.append_assoc, List.cons_append] at h ⊢; exact h), Lib.hid (HG3.out)⟩
            case measure => simp [intOf]; omega
    · have hge : (b : Int) ≤ (ni : Int) := by omega
      have hge2 : ¬ (ni : Int) < (b : Int) := by omega
      have HFIN : Hid (S.Perm X ∧ PRow wr g (L ++ (S ++ R)) rest) := Lib.hid (by
        have hU : U = [] := by
          have h1 := HPM.out.length_eq
          rw [List.length_append] at h1
          rcases HI.out.2 with h | ⟨h2, h3, h4⟩
          · have h5 := HB.out
            exact List.length_eq_zero_iff.1 (by omega)
          · rw [h2, h3] at h1
            exact List.length_eq_zero_iff.1 (by simpa using h1)
        have h1 := HPM.out
        have h2 := HP.out
        rw [hU] at h1 h2
        rw [List.append_nil] at h1
        exact ⟨h1, h2⟩)
      clear hlt
      go_wp2_with fail
      go_end0
      exact ⟨rfl, S, HFIN.out.1, HSO.out, HFIN.out.2, HG.out⟩
end Go.Proofs.YtcjamnfboifjeaaDoor

/-
  Two runs of pairs change places.
-/
namespace Go.Proofs.YtcjamnfboifjeaaDoor
open Go.RowKit
set_option linter.unusedVariables false
set_option linter.unusedSimpArgs false
set_option maxRecDepth 100000

theorem swapRangeZ (g c : Nat) (fn : Value) (L X M Y R : List PEnt) (rest : List Value) (w : World) (za zb zn : Int) (N : Nat) (hr : PRow w g (L ++ (X ++ (M ++ (Y ++ R)))) rest) (hXY : X.length = Y.length) (ha : za = (L.length : Int)) (hb : zb = (L.length : Int) + X.length + M.length) (hn : zn = (X.length : Int)) (hN : N = L.length + X.length + M.length + Y.length + R.length) (hd : N ≤ 100000) :
    Calls Tryd.prog 112 #[.slice (some ⟨g, 0, none⟩) N c, .int .i64 za, .int .i64 zb, .int .i64 zn, fn] w fun e w' => e = .returned (.tuple #[]) ∧ PRow w' g (L ++ (Y ++ (M ++ (X ++ R)))) rest ∧ Gr g w w' := by
  have h := swapRange g c fn L X M Y R rest w L.length (L.length + X.length + M.length) X.length N hr hXY rfl rfl rfl hN hd
  rw [ha, hb, hn]
  exact h
/-- What a round of the turning stands at. -/
def RotAt (g m N : Nat) (T : List PEnt) (rest : List Value) (w : World) (i j : Value) (wr : World) : Prop :=
  ∃ (P X Y Q : List PEnt), i = .int .i64 (X.length : Int) ∧ j = .int .i64 (Y.length : Int) ∧ Hid (0 < X.length ∧ 0 < Y.length ∧ P.length + X.length = m ∧ N = P.length + X.length + Y.length + Q.length) ∧ Hid (PRow wr g (P ++ (X ++ (Y ++ Q))) rest) ∧ Hid (P ++ (Y ++ (X ++ Q)) = T) ∧ Hid (Gr g w wr)
set_option maxHeartbeats 2000000 in
theorem rotateZ (g c : Nat) (fn : Value) (L X Y R : List PEnt) (rest : List Value) (w : World) (za zm zb : Int) (N : Nat) (hr : PRow w g (L ++ (X ++ (Y ++ R))) rest) (ha : za = (L.length : Int)) (hm : zm = (L.length : Int) + X.length) (hb : zb = (L.length : Int) + X.length + Y.length) (hN : N = L.length + X.length + Y.length + R.length) (hd : N ≤ 100000) (hX : 0 < X.length) (hY : 0 < Y.length) :
    Calls Tryd.prog 109 #[.slice (some ⟨g, 0, none⟩) N c, .int .i64 za, .int .i64 zm, .int .i64 zb, fn] w fun e w' => e = .returned (.tuple #[]) ∧ PRow w' g (L ++ (Y ++ (X ++ R))) rest ∧ Gr g w w' := by
  have HR := Lib.hid hr
  obtain ⟨m, hm2⟩ : ∃ m : Nat, m = L.length + X.length := ⟨_, rfl⟩
  have hzm : zm = (m : Int) := by omega
  have hxl : zm - za = (X.length : Int) := by omega
  have hyl : zb - zm = (Y.length : Int) := by omega
  have HM := Lib.hid hm2
  have HNN := Lib.hid hN
  have hmN : m ≤ N := by omega
  have hlX : X.length ≤ N := by omega
  have hlY : Y.length ≤ N := by omega
  have hza : 0 ≤ za := by omega
  have hzb : zb ≤ 100000 := by omega
  have HXY := Lib.hid (And.intro hX hY)
  subst hzm
  have HA := Lib.hid ha
  have HB := Lib.hid hb
  clear hr hm2 hN hX hY hm ha hb
  go_enter Tryd.func109, Tryd.ntmps109
  go_wp2_with fail
  go_loopw [10, 11] (fun i j wr => RotAt g m N (L ++ (Y ++ (X ++ R))) rest w i j wr) (fun i j _ => (intOf i).toNat + (intOf j).toNat)
  case atStart => exact ⟨L, X, Y, R, by first | rfl | (rw [hxl]), by first | rfl | (rw [hyl]), Lib.hid ⟨HXY.out.1, HXY.out.2, HM.out.symm, HNN.out⟩, HR, Lib.hid rfl, Lib.hid (Gr.refl _ _)⟩
  case round =>
    obtain ⟨P, X', Y', Q, rfl, rfl, HL, HP, HT, HG⟩ := hrel
    have h1 := HL.out.1
    have h2 := HL.out.2.1
    have h3 := HL.out.2.2.1
    have h4 := HL.out.2.2.2
    have i1 : X'.length ≤ 100000 := by omega
    have i2 : Y'.length ≤ 100000 := by omega
    have i3 : (X'.length : Int) ≤ (m : Int) := by omega
    have i4 : (m : Int) ≤ 100000 := by omega
    clear h1 h2 h3 h4
    rcases Nat.lt_trichotomy X'.length Y'.length with hlt | heq | hgt
    · have q1 : ((X'.length : Int) == (Y'.length : Int)) = false := by rw [beq_eq_false_iff_ne]; omega
      have q1' : ((X'.length : Int) != (Y'.length : Int)) = true := by simp only [bne, q1]; rfl
      have q2 : decide ((Y'.length : Int) < (X'.length : Int)) = false := decide_eq_false (by omega)
      have hlt2 : (X'.length : Int) < (Y'.length : Int) := by omega
      obtain ⟨Y1, Y2, hsp, hy2⟩ : ∃ Y1 Y2, Y' = Y1 ++ Y2 ∧ Y2.length = X'.length := ⟨Y'.take (Y'.length - X'.length), Y'.drop (Y'.length - X'.length), (List.take_append_drop _ _).symm, by rw [List.length_drop]; omega⟩
      have hyl2 : Y'.length = Y1.length + Y2.length := by rw [hsp, List.length_append]
      have HF := Lib.hid (And.intro hy2 (And.intro hyl2 hlt))
      have HSP := Lib.hid hsp
      have HCALL := Lib.hid (fun (za zb zn : Int) (e1 : za = (P.length : Int)) (e2 : zb = (P.length : Int) + X'.length + Y1.length) (e3 : zn = (X'.length : Int)) => swapRangeZ g c fn P X' Y1 Y2 Q rest wr za zb zn N (by have h := HP.out; rw [hsp, List.append_assoc] at h; exact h) hy2.symm e1 e2 e3 (by have h := HL.out.2.2.2; omega) hd)
      clear hy2 hyl2 hsp hlt
      go_wp2_with fail
      refine (HCALL.out _ _ _ (by have a1 := HL.out; omega) (by have a1 := HL.out; have a2 := HF.out; omega) (by omega)).mono ?_
      rintro e w1 ⟨rfl, hp1, hg1⟩
      have HP1 := Lib.hid hp1
      have HG1 := Lib.hid (HG.out.trans hg1)
      clear hp1 hg1 HCALL
      go_wp2_with fail
      go_roundw
      case rel => exact ⟨P, Y2, Y1, X' ++ Q, by rw [HF.out.1], (by have a2 := HF.out; congr 1; omega), Lib.hid (by have a1 := HL.out; have a2 := HF.out; rw [List.length_append]; omega), HP1, Lib.hid (by have h := HT.out; rw [HSP.out, List.append_assoc] at h; rw [← h]), HG1⟩
      case measure => (have a1 := HL.out; have a2 := HF.out; simp [intOf]; omega)
    · have q1 : ((X'.length : Int) == (Y'.length : Int)) = true := by rw [heq]; simp
      have q1' : ((X'.length : Int) != (Y'.length : Int)) = false := by simp only [bne, q1]; rfl
      have HE := Lib.hid heq
      have HCALL := Lib.hid (fun (za zb zn : Int) (e1 : za = (P.length : Int)) (e2 : zb = (P.length : Int) + X'.length + ([] : List PEnt).length) (e3 : zn = (X'.length : Int)) => swapRangeZ g c fn P X' [] Y' Q rest wr za zb zn N HP.out heq e1 e2 e3 (by have h := HL.out.2.2.2; simp; omega) hd)
      clear heq
      go_wp2_with fail
      refine (HCALL.out _ _ _ (by have := HL.out.2.2.1; omega) (by have := HL.out.2.2.1; simp; omega) (by omega)).mono ?_
      rintro e w1 ⟨rfl, hp1, hg1⟩
      have HP1 := Lib.hid hp1
      have HG1 := Lib.hid (HG.out.trans hg1)
      clear hp1 hg1 HCALL
      go_wp2_with fail
      go_end0
      exact ⟨rfl, by rw [← HT.out]; exact HP1.out, HG1.out⟩
    · have q1 : ((X'.length : Int) == (Y'.length : Int)) = false := by rw [beq_eq_false_iff_ne]; omega
      have q1' : ((X'.length : Int) != (Y'.length : Int)) = true := by simp only [bne, q1]; rfl
      have q2 : decide ((Y'.length : Int) < (X'.length : Int)) = true := decide_eq_true (by omega)
      have hgt2 : (Y'.length : Int) < (X'.length : Int) := by omega
      obtain ⟨X1, X2, hsp, hx1⟩ : ∃ X1 X2, X' = X1 ++ X2 ∧ X1.length = Y'.length := ⟨X'.take Y'.length, X'.drop Y'.length, (List.take_append_drop _ _).symm, by rw [List.length_take]; omega⟩
      have hxl2 : X'.length = X1.length + X2.length := by rw [hsp, List.length_append]
      have HF := Lib.hid (And.intro hx1 (And.intro hxl2 hgt))
      have HSP := Lib.hid hsp
      have HCALL := Lib.hid (fun (za zb zn : Int) (e1 : za = (P.length : Int)) (e2 : zb = (P.length : Int) + X1.length + X2.length) (e3 : zn = (X1.length : Int)) => swapRangeZ g c fn P X1 X2 Y' Q rest wr za zb zn N (by have h := HP.out; rw [hsp, List.append_assoc] at h; exact h) hx1 e1 e2 e3 (by have h := HL.out.2.2.2; omega) hd)
      clear hx1 hxl2 hsp hgt
      go_wp2_with fail
      refine (HCALL.out _ _ _ (by have a1 := HL.out; omega) (by have a1 := HL.out; have a2 := HF.out; omega) (by have a2 := HF.out; omega)).mono ?_
      rintro e w1 ⟨rfl, hp1, hg1⟩
      have HP1 := Lib.hid hp1
      have HG1 := Lib.hid (HG.out.trans hg1)
      clear hp1 hg1 HCALL
      go_wp2_with fail
      go_roundw
      case rel => exact ⟨P ++ Y', X2, X1, Q, (by have a2 := HF.out; congr 1; omega), by rw [HF.out.1], Lib.hid (by have a1 := HL.out; have a2 := HF.out; rw [List.length_append]; omega), Lib.hid (by have h := HP1.out; rw [List.append_assoc]; exact h), Lib.hid (by have h := HT.out; rw [HSP.out] at h; rw [← h]; simp only [List.append_assoc]), HG1⟩
      case measure => (have a1 := HL.out; have a2 := HF.out; simp [intOf]; omega)
end Go.Proofs.YtcjamnfboifjeaaDoor

/-
  Two runs of pairs merged: one pair ahead of a run.
-/
namespace Go.Proofs.YtcjamnfboifjeaaDoor
open Go.RowKit
set_option linter.unusedVariables false
set_option linter.unusedSimpArgs false
set_option maxRecDepth 100000

theorem kc_of {x y z : PEnt} (h : kle x y) (k : kc y z < 0) : kc x z < 0 := (V.cmp_tri x.1.1 y.1.1 z.1.1).2.1 h k
theorem take_lt {Y : List PEnt} {x y : PEnt} {t : Nat} (hs : Y.Pairwise kle) (hy : Y[t]? = some y) (h : kc y x < 0) : ∀ z ∈ Y.take (t + 1), kc z x < 0 := by
  intro z hz
  obtain ⟨ht, hy⟩ := List.getElem?_eq_some_iff.1 hy
  rw [List.take_succ_eq_append_getElem ht, hy] at hz
  rcases List.mem_append.1 hz with hz | hz
  · have e : Y = Y.take t ++ Y[t] :: Y.drop (t + 1) := by rw [← List.drop_eq_getElem_cons ht, List.take_append_drop]
    rw [e, List.pairwise_append, hy] at hs
    exact kc_of (hs.2.2 z hz y (by simp)) h
  · rw [List.mem_singleton] at hz; rw [hz]; exact h
theorem drop_ge {Y : List PEnt} {x y : PEnt} {t : Nat} (hs : Y.Pairwise kle) (hy : Y[t]? = some y) (h : ¬ kc y x < 0) : ∀ z ∈ Y.drop t, kle x z := by
  intro z hz
  refine kc_le fun hn => ?_
  obtain ⟨ht, hy⟩ := List.getElem?_eq_some_iff.1 hy
  rw [List.drop_eq_getElem_cons ht, hy] at hz
  rcases List.mem_cons.1 hz with rfl | hz
  · exact h hn
  · have e : Y = Y.take t ++ Y[t] :: Y.drop (t + 1) := by rw [← List.drop_eq_getElem_cons ht, List.take_append_drop]
    rw [e, List.pairwise_append, hy] at hs
    exact h (kc_of ((List.pairwise_cons.1 hs.2.1).1 z hz) hn)
theorem mid_at (L : List PEnt) (x : PEnt) (Y R : List PEnt) (t : Nat) (h : t < Y.length) : (L ++ x :: (Y ++ R))[L.length + 1 + t]? = some Y[t] := by
  rw [List.getElem?_append_right (by omega), show L.length + 1 + t - L.length = t + 1 by omega, List.getElem?_cons_succ, List.getElem?_append_left h, List.getElem?_eq_getElem h]
theorem set_two' (A C : List PEnt) (x y : PEnt) : ((A ++ x :: y :: C).set A.length y).set (A.length + 1) x = A ++ y :: x :: C := by
  rw [List.set_append_right _ _ (Nat.le_refl _), Nat.sub_self, List.set_cons_zero, List.set_append_right _ _ (by omega), show A.length + 1 - A.length = 1 by omega, List.set_cons_succ, List.set_cons_zero]
/-- The pair on its way up. -/
def UpA (a : Nat) (L Y1 : List PEnt) (x : PEnt) (T : List PEnt) (g : Nat) (rest : List Value) (w : World) (k : Value) (wr : World) : Prop :=
  ∃ (kn t : Nat), k = .int .i64 (kn : Int) ∧ kn ≤ 100000 ∧ Hid (kn = a + t ∧ t ≤ Y1.length) ∧ Hid (PRow wr g (L ++ (Y1.take t ++ x :: (Y1.drop t ++ T))) rest) ∧ Hid (Gr g w wr)
/-- The search's state. -/
def SeA (m b : Nat) (x : PEnt) (Y : List PEnt) (g : Nat) (d : List PEnt) (rest : List Value) (w : World) (i j h : Value) (wr : World) : Prop :=
  ∃ (ni nj : Nat), i = .int .i64 (ni : Int) ∧ j = .int .i64 (nj : Int) ∧ m ≤ ni ∧ ni ≤ nj ∧ nj ≤ b ∧ Hid (∀ y ∈ Y.take (ni - m), kc y x < 0) ∧ Hid (∀ y ∈ Y.drop (nj - m), kle x y) ∧ Hid (PRow wr g d rest) ∧ Hid (Gr g w wr)
set_option maxHeartbeats 4000000 in
theorem symA (g c : Nat) (L : List PEnt) (x : PEnt) (Y R : List PEnt) (rest : List Value) (w : World) (a m b N : Nat) (hr : PRow w g (L ++ (x :: (Y ++ R))) rest) (hx : leafP x) (hY : ∀ y ∈ Y, leafP y) (hs : Y.Pairwise kle) (ha : a = L.length) (hm : m = L.length + 1) (hb : b = L.length + 1 + Y.length) (hN : N = L.length + 1 + Y.length + R.length) (hd : N ≤ 100000) :
    Calls Tryd.prog 105 #[.slice (some ⟨g, 0, none⟩) N c, .int .i64 (a : Int), .int .i64 (m : Int), .int .i64 (b : Int), .func (Fn.func 76) #[] #[]] w fun e w' => e = .returned (.tuple #[]) ∧ ∃ Z, Z.Perm (x :: Y) ∧ Z.Pairwise kle ∧ PRow w' g (L ++ (Z ++ R)) rest ∧ Gr g w w' := by
  have HR := Lib.hid hr
  have HX := Lib.hid hx
  have HY := Lib.hid hY
  have HS := Lib.hid hs
  have ha2 : a ≤ 100000 := by omega
  have hb2 : b ≤ 100000 := by omega
  have hmb : m ≤ b := by omega
  have hma : (m : Int) - (a : Int) = 1 := by omega
  have haN : (a : Int) < (N : Int) := by omega
  have hbN : b ≤ N := by omega
  have HF := Lib.hid (And.intro ha (And.intro hm (And.intro hb hN)))
  have hE := keyEnters
  clear hr hx hY hs ha hm hb hN
  go_enter Tryd.func105, Tryd.ntmps105
  go_wp2_with fail
  go_loopw [10, 11, 12] (fun i j h wr => SeA m b x Y g (L ++ (x :: (Y ++ R))) rest w i j h wr) (fun i j _ _ => (intOf j).toNat - (intOf i).toNat)
  case atStart => exact ⟨m, b, rfl, rfl, Nat.le_refl _, hmb, Nat.le_refl _, Lib.hid (by rw [Nat.sub_self]; intro y hy; cases hy), Lib.hid (by rw [show b - m = Y.length by have := HF.out; omega, List.drop_length]; intro y hy; cases hy), HR, Lib.hid (Gr.refl _ _)⟩
  case round =>
    obtain ⟨ni, nj, rfl, rfl, h1, h2, h3, HT, HD, HP, HG⟩ := hrel
    by_cases hlt : ni < nj
    · have hlt2 : (ni : Int) < (nj : Int) := by omega
      obtain ⟨hh, hhd⟩ : ∃ hh : Nat, ((ni : Int) + (nj : Int)) / 2 = (hh : Int) := ⟨(ni + nj) / 2, by omega⟩
      have hh1 : ni ≤ hh := by omega
      have hh2 : hh < nj := by omega
      have hmid : hh = L.length + 1 + (hh - m) := by have := HF.out; omega
      have htl : hh - m < Y.length := by have := HF.out; omega
      obtain ⟨y, hy⟩ : ∃ y, Y[hh - m] = y := ⟨_, rfl⟩
      have hyo : Y[hh - m]? = some y := by rw [List.getElem?_eq_getElem htl, hy]
      have e1 := mid_at L x Y R (hh - m) htl
      rw [← hmid, hy] at e1
      have e2 : (L ++ x :: (Y ++ R))[a]? = some x := by rw [HF.out.1]; simp
      have hly : leafP y := HY.out y (by rw [← hy]; exact List.getElem_mem htl)
      obtain ⟨hi1, e1⟩ := List.getElem?_eq_some_iff.1 e1
      obtain ⟨hi2, e2⟩ := List.getElem?_eq_some_iff.1 e2
      have HT1 := HP.out.ten hh hi1
      have HT2 := HP.out.ten a hi2
      rw [e1] at HT1
      rw [e2] at HT2
      obtain ⟨x0, x1, x2, x3, x4, x5, x6, x7, x8, x9⟩ := HT1
      obtain ⟨y0, y1, y2, y3, y4, y5, y6, y7, y8, y9⟩ := HT2
      have hhN : (hh : Int) < (N : Int) := by omega
      have HLY := Lib.hid hly
      have HYO := Lib.hid hyo
      clear hmid htl hy hyo hly e1 e2 hi1 hi2
      go_upto_region 5 with fail
      try rw [hhd]
      clear hhd
      go_still_tail 9, (by kernel_rfl)
      change wpList _ _ _ _ _ wr.drew
      go_wp2_with fail
      refine (keyCmp y x HLY.out HX.out wr.drew).mono ?_
      rintro e w1 ⟨rfl, hb1⟩
      clear x0 x1 x2 x3 x4 x5 x6 x7 x8 x9 y0 y1 y2 y3 y4 y5 y6 y7 y8 y9
      have HP3 := Lib.hid (show PRow w1 g (L ++ (x :: (Y ++ R))) rest from Blk.below (show Blk wr.drew g _ _ from HP.out) hb1 (PRow.lt HP.out))
      have HG3 := Lib.hid (HG.out.drew.below hb1 (Nat.le_refl _))
      clear hb1
      by_cases hc : kc y x < 0
      · have qc : decide (kc y x < 0) = true := decide_eq_true hc
        have HTK := Lib.hid (take_lt HS.out HYO.out hc)
        clear hc
        go_wp2_with fail
        go_roundw
        case rel => exact ⟨hh + 1, nj, by go_num, rfl, by omega, by omega, h3, Lib.hid (by rw [show hh + 1 - m = hh - m + 1 by omega]; exact HTK.out), HD, HP3, HG3⟩
        case measure => simp [intOf]; omega
      · have qc : decide (kc y x < 0) = false := decide_eq_false hc
        have HTK := Lib.hid (drop_ge HS.out HYO.out hc)
        clear hc
        go_wp2_with fail
        go_roundw
        case rel => exact ⟨ni, hh, rfl, rfl, h1, hh1, by omega, HT, HTK, HP3, HG3⟩
        case measure => simp [intOf]; omega
    · obtain rfl : ni = nj := by omega
      obtain ⟨np, rfl⟩ : ∃ np, ni = np + 1 := ⟨ni - 1, by have := HF.out; omega⟩
      obtain ⟨Y1, hY1⟩ : ∃ Y1, Y.take (np + 1 - m) = Y1 := ⟨_, rfl⟩
      obtain ⟨Y2, hY2⟩ : ∃ Y2, Y.drop (np + 1 - m) = Y2 := ⟨_, rfl⟩
      have hYY : Y = Y1 ++ Y2 := by rw [← hY1, ← hY2, List.take_append_drop]
      have hl1 : np = a + Y1.length := by rw [← hY1, List.length_take]; have := HF.out; omega
      rw [hY1] at HT
      rw [hY2] at HD
      have HYY := Lib.hid hYY
      have HNP := Lib.hid hl1
      have HP0 : Hid (PRow wr g (L ++ (x :: (Y1 ++ (Y2 ++ R)))) rest) := Lib.hid (by have h := HP.out; rw [hYY, List.append_assoc] at h; exact h)
      have hwnp : IntKind.i64.wrap (np : Int) = (np : Int) := by rw [IntKind.wrap_i64]; omega
      clear hY1 hY2 hYY hl1
      go_wp2_with fail
      go_loopw [13] (fun k wr => UpA a L Y1 x (Y2 ++ R) g rest w k wr) (fun k _ => np + 1 - (intOf k).toNat)
      case atStart => exact ⟨a, 0, rfl, ha2, Lib.hid ⟨rfl, Nat.zero_le _⟩, HP0, HG⟩
      case round =>
        obtain ⟨kn, t, rfl, hkn, HK, HP2, HG2⟩ := hrel
        by_cases hk : kn < np
        · have hk2 : (kn : Int) < (np : Int) := by omega
          have hk3 : (kn : Int) + 1 < (np : Int) + 1 := by omega
          have htl : t < Y1.length := by have := HK.out; have := HNP.out; omega
          obtain ⟨y, hy⟩ : ∃ y, Y1[t] = y := ⟨_, rfl⟩
          have hde : Y1.drop t = y :: Y1.drop (t + 1) := by rw [← hy]; exact List.drop_eq_getElem_cons htl
          have htk : Y1.take (t + 1) = Y1.take t ++ [y] := by rw [List.take_succ_eq_append_getElem htl, hy]
          have hPE : L ++ (Y1.take t ++ x :: (Y1.drop t ++ (Y2 ++ R))) = (L ++ Y1.take t) ++ x :: y :: (Y1.drop (t + 1) ++ (Y2 ++ R)) := by rw [hde]; simp only [List.append_assoc, List.cons_append]
          have hLl : (L ++ Y1.take t).length = kn := by rw [List.length_append, List.length_take]; have := HK.out; have := HF.out; omega
          have HPr := HP2.out
          rw [hPE] at HPr
          have e1 : ((L ++ Y1.take t) ++ x :: y :: (Y1.drop (t + 1) ++ (Y2 ++ R)))[kn]? = some x := by rw [← hLl]; simp
          have e2 : ((L ++ Y1.take t) ++ x :: y :: (Y1.drop (t + 1) ++ (Y2 ++ R)))[kn + 1]? = some y := by rw [← hLl, List.getElem?_append_right (by omega), show (L ++ Y1.take t).length + 1 - (L ++ Y1.take t).length = 1 by omega]; rfl
          have HSET := set_two' (L ++ Y1.take t) (Y1.drop (t + 1) ++ (Y2 ++ R)) x y
          rw [hLl] at HSET
          have HNX : Hid ((L ++ Y1.take t) ++ y :: x :: (Y1.drop (t + 1) ++ (Y2 ++ R)) = L ++ (Y1.take (t + 1) ++ x :: (Y1.drop (t + 1) ++ (Y2 ++ R)))) := Lib.hid (by rw [htk]; simp only [List.append_assoc, List.cons_append, List.nil_append])
          obtain ⟨dj, hdj⟩ : ∃ dj, (L ++ Y1.take t) ++ x :: y :: (Y1.drop (t + 1) ++ (Y2 ++ R)) = dj := ⟨_, rfl⟩
          rw [hdj] at HPr e1 e2 HSET
          obtain ⟨hi1, e1⟩ := List.getElem?_eq_some_iff.1 e1
          obtain ⟨hi2, e2⟩ := List.getElem?_eq_some_iff.1 e2
          have HT1 := HPr.ten kn hi1
          have HT2 := HPr.ten (kn + 1) hi2
          rw [e1] at HT1
          rw [e2] at HT2
          obtain ⟨x0, x1, x2, x3, x4, x5, x6, x7, x8, x9⟩ := HT1
          obtain ⟨y0, y1, y2, y3, y4, y5, y6, y7, y8, y9⟩ := HT2
          have HRES := HPr.swap kn (kn + 1) hi1 hi2 y x
          rw [HSET, HNX.out] at HRES
          have HRES := Lib.hid HRES
          have hkN : (kn : Int) + 1 < (N : Int) := by have := HF.out; omega
          have hkN1 : (kn : Int) < (N : Int) := by omega
          have p0 : (0 : Int) ≤ (kn : Int) + 1 := by omega
          have htn : ((kn : Int) + 1).toNat = kn + 1 := by omega
          have hfz : ∀ i, wr.frozen? ⟨g, i, none⟩ = false := HPr.soft
          have hPQ : ∀ q r, q < 10 → r < 10 → ¬ kn * 10 + q = (kn + 1) * 10 + r := fun q r h1 h2 => by omega
          have hQP : ∀ q r, q < 10 → r < 10 → ¬ (kn + 1) * 10 + q = kn * 10 + r := fun q r h1 h2 => by omega
          have hPQ0 : ∀ r, r < 10 → ¬ kn * 10 = (kn + 1) * 10 + r := fun r h => by omega
          have hQP0 : ∀ r, r < 10 → ¬ (kn + 1) * 10 = kn * 10 + r := fun r h => by omega
          have hPQ1 : ∀ r, r < 10 → ¬ kn * 10 + r = (kn + 1) * 10 := fun r h => by omega
          have hQP1 : ∀ r, r < 10 → ¬ (kn + 1) * 10 + r = kn * 10 := fun r h => by omega
          have hPQ2 : ¬ kn * 10 = (kn + 1) * 10 := by omega
          have hQP2 : ¬ (kn + 1) * 10 = kn * 10 := by omega
          clear HPr hde htk hPE hLl HSET HNX hdj e1 e2 hi1 hi2 htl hy
          go_upto_region 11 with fail
          go_region
          clear hPQ hQP hPQ0 hQP0 hPQ1 hQP1 hPQ2 hQP2 x0 x1 x2 x3 x4 x5 x6 x7 x8 x9 y0 y1 y2 y3 y4 y5 y6 y7 y8 y9 hfz
          have HG4 := Lib.hid ((HG2.out.trans (st10_gr wr g (kn * 10) y)).trans (st10_gr _ g ((kn + 1) * 10) x))
          obtain ⟨W, hW⟩ : ∃ W, W = st10 (st10 wr g (kn * 10) y) g ((kn + 1) * 10) x := ⟨_, rfl⟩
          rw [← hW] at HRES HG4
          unfold st10 at hW
          rw [← hW]
          clear hW
          go_wp2_with fail
          go_roundw
          case rel => exact ⟨kn + 1, t + 1, by go_num, by omega, Lib.hid (by have := HK.out; have := HNP.out; omega), Lib.hid HRES.out, Lib.hid HG4.out.drew⟩
          case measure => simp [intOf]; omega
        · have hk2 : (np : Int) ≤ (kn : Int) := by omega
          have hk3 : ¬ (kn : Int) < (np : Int) := by omega
          have HFIN : Hid (PRow wr g (L ++ ((Y1 ++ x :: Y2) ++ R)) rest) := Lib.hid (by
            have ht : t = Y1.length := by have := HK.out; have := HNP.out; omega
            have h := HP2.out
            rw [ht, List.take_length, List.drop_length] at h
            simp only [List.append_assoc, List.cons_append, List.nil_append] at h ⊢
            exact h)
          have HZ : Hid ((Y1 ++ x :: Y2).Perm (x :: Y) ∧ (Y1 ++ x :: Y2).Pairwise kle) := Lib.hid (by
            rw [HYY.out]
            refine ⟨List.perm_middle, ?_⟩
            have h := HS.out
            rw [HYY.out, List.pairwise_append] at h
            rw [List.pairwise_append]
            refine ⟨h.1, List.pairwise_cons.2 ⟨fun s hs => HD.out s hs, h.2.1⟩, fun p hp q hq => ?_⟩
            rcases List.mem_cons.1 hq with rfl | hq
            · exact kc_lt (HT.out p hp)
            · exact h.2.2 p hp q hq)
          clear hk
          go_wp2_with fail
          first | go_end0 | refine bodyPost_ret (results_none rfl _ _ _) rfl ?_
          exact ⟨rfl, _, HZ.out.1, HZ.out.2, HFIN.out, HG2.out⟩
end Go.Proofs.YtcjamnfboifjeaaDoor

/-
  Two runs of pairs merged: a run ahead of one pair.
-/
namespace Go.Proofs.YtcjamnfboifjeaaDoor
open Go.RowKit
set_option linter.unusedVariables false
set_option linter.unusedSimpArgs false
set_option maxRecDepth 100000

theorem kc_of2 {x y z : PEnt} (h : kc x y < 0) (k : kle y z) : kc x z < 0 := (V.cmp_tri x.1.1 y.1.1 z.1.1).2.2.1 h k
theorem take_le {X : List PEnt} {x y : PEnt} {t : Nat} (hs : X.Pairwise kle) (hx : X[t]? = some x) (h : kle x y) : ∀ z ∈ X.take (t + 1), kle z y := by
  intro z hz
  obtain ⟨ht, hx⟩ := List.getElem?_eq_some_iff.1 hx
  rw [List.take_succ_eq_append_getElem ht, hx] at hz
  rcases List.mem_append.1 hz with hz | hz
  · have e : X = X.take t ++ X[t] :: X.drop (t + 1) := by rw [← List.drop_eq_getElem_cons ht, List.take_append_drop]
    rw [e, List.pairwise_append, hx] at hs
    exact kle_trans (hs.2.2 z hz x (by simp)) h
  · rw [List.mem_singleton] at hz; rw [hz]; exact h
theorem drop_gt {X : List PEnt} {x y : PEnt} {t : Nat} (hs : X.Pairwise kle) (hx : X[t]? = some x) (h : kc y x < 0) : ∀ z ∈ X.drop t, kc y z < 0 := by
  intro z hz
  obtain ⟨ht, hx⟩ := List.getElem?_eq_some_iff.1 hx
  rw [List.drop_eq_getElem_cons ht, hx] at hz
  rcases List.mem_cons.1 hz with rfl | hz
  · exact h
  · have e : X = X.take t ++ X[t] :: X.drop (t + 1) := by rw [← List.drop_eq_getElem_cons ht, List.take_append_drop]
    rw [e, List.pairwise_append, hx] at hs
    exact kc_of2 h ((List.pairwise_cons.1 hs.2.1).1 z hz)
/-- The search's state. -/
def SeB (a m : Nat) (y : PEnt) (X : List PEnt) (g : Nat) (d : List PEnt) (rest : List Value) (w : World) (i j h : Value) (wr : World) : Prop :=
  ∃ (ni nj : Nat), i = .int .i64 (ni : Int) ∧ j = .int .i64 (nj : Int) ∧ a ≤ ni ∧ ni ≤ nj ∧ nj ≤ m ∧ Hid (∀ z ∈ X.take (ni - a), kle z y) ∧ Hid (∀ z ∈ X.drop (nj - a), kc y z < 0) ∧ Hid (PRow wr g d rest) ∧ Hid (Gr g w wr)
/-- The pair on its way down. -/
def DnB (i : Nat) (L X1 X2 : List PEnt) (y : PEnt) (R : List PEnt) (g : Nat) (rest : List Value) (w : World) (k : Value) (wr : World) : Prop :=
  ∃ (kn t : Nat), k = .int .i64 (kn : Int) ∧ kn ≤ 100000 ∧ Hid (kn = i + t ∧ t ≤ X2.length) ∧ Hid (PRow wr g (L ++ (X1 ++ (X2.take t ++ y :: (X2.drop t ++ R)))) rest) ∧ Hid (Gr g w wr)
set_option maxHeartbeats 4000000 in
theorem symB (g c : Nat) (L X : List PEnt) (y : PEnt) (R : List PEnt) (rest : List Value) (w : World) (a m b N : Nat) (hr : PRow w g (L ++ (X ++ y :: R)) rest) (hy : leafP y) (hX : ∀ x ∈ X, leafP x) (hs : X.Pairwise kle) (ha : a = L.length) (hm : m = L.length + X.length) (hb : b = L.length + X.length + 1) (hN : N = L.length + X.length + 1 + R.length) (hd : N ≤ 100000) (h2 : 2 ≤ X.length) :
    Calls Tryd.prog 105 #[.slice (some ⟨g, 0, none⟩) N c, .int .i64 (a : Int), .int .i64 (m : Int), .int .i64 (b : Int), .func (Fn.func 76) #[] #[]] w fun e w' => e = .returned (.tuple #[]) ∧ ∃ Z, Z.Perm (X ++ [y]) ∧ Z.Pairwise kle ∧ PRow w' g (L ++ (Z ++ R)) rest ∧ Gr g w w' := by
  have HR := Lib.hid hr
  have HY := Lib.hid hy
  have HX := Lib.hid hX
  have HS := Lib.hid hs
  have ha2 : a ≤ 100000 := by omega
  have hm2 : m ≤ 100000 := by omega
  have hb2 : b ≤ 100000 := by omega
  have ham : a ≤ m := by omega
  have hma : ((m : Int) - (a : Int) == 1) = false := by rw [beq_eq_false_iff_ne]; omega
  have hma2 : ¬ (m : Int) - (a : Int) = 1 := by omega
  have hbm : (b : Int) - (m : Int) = 1 := by omega
  have hmN : (m : Int) < (N : Int) := by omega
  have HF := Lib.hid (And.intro ha (And.intro hm (And.intro hb hN)))
  have hE := keyEnters
  clear hr hy hX hs ha hm hb hN h2
  go_enter Tryd.func105, Tryd.ntmps105
  go_wp2_with fail
  go_loopw [14, 15, 16] (fun i j h wr => SeB a m y X g (L ++ (X ++ y :: R)) rest w i j h wr) (fun i j _ _ => (intOf j).toNat - (intOf i).toNat)
  case atStart => exact ⟨a, m, rfl, rfl, Nat.le_refl _, ham, Nat.le_refl _, Lib.hid (by rw [Nat.sub_self]; intro z hz; cases hz), Lib.hid (by rw [show m - a = X.length by have := HF.out; omega, List.drop_length]; intro z hz; cases hz), HR, Lib.hid (Gr.refl _ _)⟩
  case round =>
    obtain ⟨ni, nj, rfl, rfl, h1, h2, h3, HT, HD, HP, HG⟩ := hrel
    by_cases hlt : ni < nj
    · have hlt2 : (ni : Int) < (nj : Int) := by omega
      obtain ⟨hh, hhd⟩ : ∃ hh : Nat, ((ni : Int) + (nj : Int)) / 2 = (hh : Int) := ⟨(ni + nj) / 2, by omega⟩
      have hh1 : ni ≤ hh := by omega
      have hh2 : hh < nj := by omega
      have hmid : hh = L.length + (hh - a) := by have := HF.out; omega
      have htl : hh - a < X.length := by have := HF.out; omega
      obtain ⟨x, hx⟩ : ∃ x, X[hh - a] = x := ⟨_, rfl⟩
      have hxo : X[hh - a]? = some x := by rw [List.getElem?_eq_getElem htl, hx]
      have e1 : (L ++ (X ++ y :: R))[hh]? = some x := by rw [hmid, List.getElem?_append_right (by omega), Nat.add_sub_cancel_left, List.getElem?_append_left htl]; exact hxo
      have e2 : (L ++ (X ++ y :: R))[m]? = some y := by
        rw [HF.out.2.1, List.getElem?_append_right (by omega), Nat.add_sub_cancel_left]
        simp
      have hlx : leafP x := HX.out x (by rw [← hx]; exact List.getElem_mem htl)
      obtain ⟨hi1, e1⟩ := List.getElem?_eq_some_iff.1 e1
      obtain ⟨hi2, e2⟩ := List.getElem?_eq_some_iff.1 e2
      have HT1 := HP.out.ten hh hi1
      have HT2 := HP.out.ten m hi2
      rw [e1] at HT1
      rw [e2] at HT2
      obtain ⟨x0, x1, x2, x3, x4, x5, x6, x7, x8, x9⟩ := HT1
      obtain ⟨y0, y1, y2, y3, y4, y5, y6, y7, y8, y9⟩ := HT2
      have hhN : (hh : Int) < (N : Int) := by omega
      have HLX := Lib.hid hlx
      have HXO := Lib.hid hxo
      clear hmid htl hx hxo hlx e1 e2 hi1 hi2
      go_upto_region 17 with fail
      try rw [hhd]
      clear hhd
      go_still_tail 9, (by kernel_rfl)
      change wpList _ _ _ _ _ wr.drew
      go_wp2_with fail
      refine (keyCmp y x HY.out HLX.out wr.drew).mono ?_
      rintro e w1 ⟨rfl, hb1⟩
      clear x0 x1 x2 x3 x4 x5 x6 x7 x8 x9 y0 y1 y2 y3 y4 y5 y6 y7 y8 y9
      have HP3 := Lib.hid (show PRow w1 g (L ++ (X ++ y :: R)) rest from Blk.below (show Blk wr.drew g _ _ from HP.out) hb1 (PRow.lt HP.out))
      have HG3 := Lib.hid (HG.out.drew.below hb1 (Nat.le_refl _))
      clear hb1
      by_cases hc : kc y x < 0
      · have qc : decide (kc y x < 0) = true := decide_eq_true hc
        have HTK := Lib.hid (drop_gt HS.out HXO.out hc)
        clear hc
        go_wp2_with fail
        go_roundw
        case rel => exact ⟨ni, hh, rfl, rfl, h1, hh1, by omega, HT, HTK, HP3, HG3⟩
        case measure => simp [intOf]; omega
      · have qc : decide (kc y x < 0) = false := decide_eq_false hc
        have HTK := Lib.hid (take_le HS.out HXO.out (kc_le hc))
        clear hc
        go_wp2_with fail
        go_roundw
        case rel => exact ⟨hh + 1, nj, by go_num, rfl, by omega, by omega, h3, Lib.hid (by rw [show hh + 1 - a = hh - a + 1 by omega]; exact HTK.out), HD, HP3, HG3⟩
        case measure => simp [intOf]; omega
    · obtain rfl : ni = nj := by omega
      obtain ⟨X1, hX1⟩ : ∃ X1, X.take (ni - a) = X1 := ⟨_, rfl⟩
      obtain ⟨X2, hX2⟩ : ∃ X2, X.drop (ni - a) = X2 := ⟨_, rfl⟩
      have hXX : X = X1 ++ X2 := by rw [← hX1, ← hX2, List.take_append_drop]
      have hl1 : ni = a + X1.length := by rw [← hX1, List.length_take]; have := HF.out; omega
      have hl2 : m = ni + X2.length := by rw [← hX2, List.length_drop]; have := HF.out; omega
      rw [hX1] at HT
      rw [hX2] at HD
      have HXX := Lib.hid hXX
      have HNI := Lib.hid (And.intro hl1 hl2)
      have HP0 : Hid (PRow wr g (L ++ (X1 ++ (X2 ++ y :: R))) rest) := Lib.hid (by have h := HP.out; rw [hXX, List.append_assoc] at h; exact h)
      clear hX1 hX2 hXX hl1 hl2
      go_wp2_with fail
      go_loopw [17] (fun k wr => DnB ni L X1 X2 y R g rest w k wr) (fun k _ => (intOf k).toNat)
      case atStart => exact ⟨m, X2.length, rfl, hm2, Lib.hid ⟨HNI.out.2, Nat.le_refl _⟩, Lib.hid (by rw [List.take_length, List.drop_length]; exact HP0.out), HG⟩
      case round =>
        obtain ⟨kn, t, rfl, hkn, HK, HP2, HG2⟩ := hrel
        by_cases hk : ni < kn
        · have hk2 : (ni : Int) < (kn : Int) := by omega
          obtain ⟨kp, rfl⟩ : ∃ kp, kn = kp + 1 := ⟨kn - 1, by omega⟩
          have hk4 : (ni : Int) < (kp : Int) + 1 := by omega
          have hk5 : ni ≤ kp := by omega
          have hk6 : (ni : Int) ≤ (kp : Int) := by omega
          clear hk2
          obtain ⟨tp, htp⟩ : ∃ tp, t = tp + 1 := ⟨t - 1, by have := HK.out; omega⟩
          have htl : tp < X2.length := by have := HK.out; omega
          obtain ⟨s, hs⟩ : ∃ s, X2[tp] = s := ⟨_, rfl⟩
          have hde : X2.drop tp = s :: X2.drop (tp + 1) := by rw [← hs]; exact List.drop_eq_getElem_cons htl
          have htk : X2.take (tp + 1) = X2.take tp ++ [s] := by rw [List.take_succ_eq_append_getElem htl, hs]
          have hPE : L ++ (X1 ++ (X2.take t ++ y :: (X2.drop t ++ R))) = (L ++ (X1 ++ X2.take tp)) ++ s :: y :: (X2.drop (tp + 1) ++ R) := by rw [htp, htk]; simp only [List.append_assoc, List.cons_append, List.nil_append]
          have hLl : (L ++ (X1 ++ X2.take tp)).length = kp := by rw [List.length_append, List.length_append, List.length_take]; have := HK.out; have := HF.out; have := HNI.out; omega
          have HPr := HP2.out
          rw [hPE] at HPr
          have e1 : ((L ++ (X1 ++ X2.take tp)) ++ s :: y :: (X2.drop (tp + 1) ++ R))[kp]? = some s := by rw [← hLl]; simp
          have e2 : ((L ++ (X1 ++ X2.take tp)) ++ s :: y :: (X2.drop (tp + 1) ++ R))[kp + 1]? = some y := by rw [← hLl, List.getElem?_append_right (by omega), show (L ++ (X1 ++ X2.take tp)).length + 1 - (L ++ (X1 ++ X2.take tp)).length = 1 by omega]; rfl
          have HSET := set_two (L ++ (X1 ++ X2.take tp)) (X2.drop (tp + 1) ++ R) s y
          rw [hLl] at HSET
          have HNX : Hid ((L ++ (X1 ++ X2.take tp)) ++ y :: s :: (X2.drop (tp + 1) ++ R) = L ++ (X1 ++ (X2.take tp ++ y :: (X2.drop tp ++ R)))) := Lib.hid (by rw [hde]; simp only [List.append_assoc, List.cons_append])
          obtain ⟨dj, hdj⟩ : ∃ dj, (L ++ (X1 ++ X2.take tp)) ++ s :: y :: (X2.drop (tp + 1) ++ R) = dj := ⟨_, rfl⟩
          rw [hdj] at HPr e1 e2 HSET
          obtain ⟨hi1, e1⟩ := List.getElem?_eq_some_iff.1 e1
          obtain ⟨hi2, e2⟩ := List.getElem?_eq_some_iff.1 e2
          have HT1 := HPr.ten kp hi1
          have HT2 := HPr.ten (kp + 1) hi2
          rw [e1] at HT1
          rw [e2] at HT2
          obtain ⟨x0, x1, x2, x3, x4, x5, x6, x7, x8, x9⟩ := HT1
          obtain ⟨y0, y1, y2, y3, y4, y5, y6, y7, y8, y9⟩ := HT2
          have HRES := HPr.swap (kp + 1) kp hi2 hi1 s y
          rw [HSET, HNX.out] at HRES
          have HRES := Lib.hid HRES
          have hkN : (kp : Int) + 1 < (N : Int) := by have := HF.out; have := HNI.out; have := HK.out; omega
          have hkN1 : (kp : Int) < (N : Int) := by omega
          have p0 : (0 : Int) ≤ (kp : Int) + 1 := by omega
          have htn : ((kp : Int) + 1).toNat = kp + 1 := by omega
          have hwp : IntKind.i64.wrap (kp : Int) = (kp : Int) := by rw [IntKind.wrap_i64]; omega
          have hfz : ∀ i, wr.frozen? ⟨g, i, none⟩ = false := HPr.soft
          have hPQ : ∀ q r, q < 10 → r < 10 → ¬ kp * 10 + q = (kp + 1) * 10 + r := fun q r h1 h2 => by omega
          have hQP : ∀ q r, q < 10 → r < 10 → ¬ (kp + 1) * 10 + q = kp * 10 + r := fun q r h1 h2 => by omega
          have hPQ0 : ∀ r, r < 10 → ¬ kp * 10 = (kp + 1) * 10 + r := fun r h => by omega
          have hQP0 : ∀ r, r < 10 → ¬ (kp + 1) * 10 = kp * 10 + r := fun r h => by omega
          have hPQ1 : ∀ r, r < 10 → ¬ kp * 10 + r = (kp + 1) * 10 := fun r h => by omega
          have hQP1 : ∀ r, r < 10 → ¬ (kp + 1) * 10 + r = kp * 10 := fun r h => by omega
          have hPQ2 : ¬ kp * 10 = (kp + 1) * 10 := by omega
          have hQP2 : ¬ (kp + 1) * 10 = kp * 10 := by omega
          have HTP := Lib.hid htp
          clear HPr hde htk hPE hLl HSET HNX hdj e1 e2 hi1 hi2 htl hs htp
          go_upto_region 23 with fail
          go_region
          clear hPQ hQP hPQ0 hQP0 hPQ1 hQP1 hPQ2 hQP2 x0 x1 x2 x3 x4 x5 x6 x7 x8 x9 y0 y1 y2 y3 y4 y5 y6 y7 y8 y9 hfz
          have HG4 := Lib.hid ((HG2.out.trans (st10_gr wr g ((kp + 1) * 10) s)).trans (st10_gr _ g (kp * 10) y))
          obtain ⟨W, hW⟩ : ∃ W, W = st10 (st10 wr g ((kp + 1) * 10) s) g (kp * 10) y := ⟨_, rfl⟩
          rw [← hW] at HRES HG4
          unfold st10 at hW
          rw [← hW]
          clear hW
          go_wp2_with fail
          go_roundw
          case rel => exact ⟨kp, tp, by go_num, by omega, Lib.hid (by have := HK.out; have := HTP.out; omega), Lib.hid HRES.out, Lib.hid HG4.out.drew⟩
          case measure => simp [intOf]; try omega
        · have hk2 : (kn : Int) ≤ (ni : Int) := by omega
          have hk3 : ¬ (ni : Int) < (kn : Int) := by omega
          have HFIN : Hid (PRow wr g (L ++ ((X1 ++ y :: X2) ++ R)) rest) := Lib.hid (by
            have ht : t = 0 := by have := HK.out; omega
            have h := HP2.out
            rw [ht, List.take_zero, List.drop_zero] at h
            simp only [List.append_assoc, List.cons_append, List.nil_append] at h ⊢
            exact h)
          have HZ : Hid ((X1 ++ y :: X2).Perm (X ++ [y]) ∧ (X1 ++ y :: X2).Pairwise kle) := Lib.hid (by
            rw [HXX.out]
            refine ⟨?_, ?_⟩
            · refine List.Perm.trans List.perm_middle ?_
              exact (List.perm_append_singleton y (X1 ++ X2)).symm
            · have h := HS.out
              rw [HXX.out] at h
              exact ins_sorted h HD.out HT.out)
          clear hk
          go_wp2_with fail
          first | go_end0 | refine bodyPost_ret (results_none rfl _ _ _) rfl ?_
          exact ⟨rfl, _, HZ.out.1, HZ.out.2, HFIN.out, HG2.out⟩
end Go.Proofs.YtcjamnfboifjeaaDoor

/-
  Two runs of pairs merged.
-/
namespace Go.Proofs.YtcjamnfboifjeaaDoor
open Go.RowKit
set_option linter.unusedVariables false
set_option linter.unusedSimpArgs false
set_option maxRecDepth 100000

/-- The runs merged, of at most n pairs together. -/
def SymSaid (n : Nat) : Prop := ∀ (g c : Nat) (L X Y R : List PEnt) (rest : List Value) (w : World) (a m b N : Nat), PRow w g (L ++ (X ++ (Y ++ R))) rest → (∀ x ∈ X, leafP x) → (∀ y ∈ Y, leafP y) → X.Pairwise kle → Y.Pairwise kle → 0 < X.length → 0 < Y.length → X.length + Y.length ≤ n → a = L.length → m = L.length + X.length → b = L.length + X.length + Y.length → N = L.length + X.length + Y.length + R.length → N ≤ 100000 →
    Calls Tryd.prog 105 #[.slice (some ⟨g, 0, none⟩) N c, .int .i64 (a : Int), .int .i64 (m : Int), .int .i64 (b : Int), .func (Fn.func 76) #[] #[]] w fun e w' => e = .returned (.tuple #[]) ∧ ∃ Z, Z.Perm (X ++ Y) ∧ Z.Pairwise kle ∧ PRow w' g (L ++ (Z ++ R)) rest ∧ Gr g w w'
/-- The search's state. -/
def SeC (a m nn lo hi : Nat) (X Y : List PEnt) (g : Nat) (d : List PEnt) (rest : List Value) (w : World) (i j h : Value) (wr : World) : Prop :=
  ∃ (ns nr : Nat), i = .int .i64 (ns : Int) ∧ j = .int .i64 (nr : Int) ∧ lo ≤ ns ∧ ns ≤ nr ∧ nr ≤ hi ∧ Hid (ns = lo ∨ ∃ x y, X[ns - 1 - a]? = some x ∧ Y[nn - ns - m]? = some y ∧ kle x y) ∧ Hid (nr = hi ∨ ∃ x y, X[nr - a]? = some x ∧ Y[nn - 1 - nr - m]? = some y ∧ kc y x < 0) ∧ Hid (PRow wr g d rest) ∧ Hid (Gr g w wr)
theorem merge_fin {X1 X2 Y1 Y2 Z1 Z2 : List PEnt} (p1 : Z1.Perm (X1 ++ Y1)) (s1 : Z1.Pairwise kle) (p2 : Z2.Perm (X2 ++ Y2)) (s2 : Z2.Pairwise kle) (hX : (X1 ++ X2).Pairwise kle) (hY : (Y1 ++ Y2).Pairwise kle) (c1 : ∀ p ∈ X1, ∀ q ∈ Y2, kle p q) (c2 : ∀ p ∈ Y1, ∀ q ∈ X2, kle p q) :
    (Z1 ++ Z2).Perm ((X1 ++ X2) ++ (Y1 ++ Y2)) ∧ (Z1 ++ Z2).Pairwise kle := by
  constructor
  · refine List.Perm.trans (List.Perm.append p1 p2) ?_
    rw [List.append_assoc, List.append_assoc]
    refine List.Perm.append_left X1 ?_
    rw [← List.append_assoc, ← List.append_assoc]
    exact List.Perm.append_right Y2 List.perm_append_comm
  · rw [List.pairwise_append] at hX hY ⊢
    refine ⟨s1, s2, fun p hp q hq => ?_⟩
    have hp2 := p1.subset hp
    have hq2 := p2.subset hq
    rcases List.mem_append.1 hp2 with hp2 | hp2 <;> rcases List.mem_append.1 hq2 with hq2 | hq2
    · exact hX.2.2 p hp2 q hq2
    · exact c1 p hp2 q hq2
    · exact c2 p hp2 q hq2
    · exact hY.2.2 p hp2 q hq2
/-- What a test of two parts tells. -/
def Two (q : Bool) (a1 b1 a2 b2 : Nat) : Prop := (q = true → a1 < b1 ∧ a2 < b2) ∧ (q = false → ¬ (a1 < b1 ∧ a2 < b2))
theorem two_yes {a1 b1 a2 b2 : Nat} (h : a1 < b1 ∧ a2 < b2) : Two true a1 b1 a2 b2 := ⟨fun _ => h, fun h => by cases h⟩
theorem two_no {a1 b1 a2 b2 : Nat} (h : ¬ (a1 < b1 ∧ a2 < b2)) : Two false a1 b1 a2 b2 := ⟨fun h => (by cases h), fun _ => h⟩
theorem take_last {X : List PEnt} {t : Nat} {x z : PEnt} (hs : X.Pairwise kle) (ht : 0 < t) (hx : X[t - 1]? = some x) (hz : z ∈ X.take t) : kle z x := by
  obtain ⟨k, rfl⟩ : ∃ k, t = k + 1 := ⟨t - 1, by omega⟩
  rw [Nat.add_sub_cancel] at hx
  have hr : kle x x := by unfold kle kc; rw [V.cmp_self]; omega
  exact take_le hs hx hr z hz
theorem drop_first {X : List PEnt} {t : Nat} {x z : PEnt} (hs : X.Pairwise kle) (hx : X[t]? = some x) (hz : z ∈ X.drop t) : kle x z := by
  obtain ⟨ht, hx⟩ := List.getElem?_eq_some_iff.1 hx
  rw [List.drop_eq_getElem_cons ht, hx] at hz
  rcases List.mem_cons.1 hz with rfl | hz
  · unfold kle kc; rw [V.cmp_self]; omega
  · have e : X = X.take t ++ X[t] :: X.drop (t + 1) := by rw [← List.drop_eq_getElem_cons ht, List.take_append_drop]
    rw [e, List.pairwise_append, hx] at hs
    exact (List.pairwise_cons.1 hs.2.1).1 z hz
set_option maxHeartbeats 8000000 in
theorem symC (n : Nat) (ih : SymSaid n) (g c : Nat) (L X Y R : List PEnt) (rest : List Value) (w : World) (a m b N : Nat) (hr : PRow w g (L ++ (X ++ (Y ++ R))) rest) (hX : ∀ x ∈ X, leafP x) (hY : ∀ y ∈ Y, leafP y) (hsX : X.Pairwise kle) (hsY : Y.Pairwise kle) (h2X : 2 ≤ X.length) (h2Y : 2 ≤ Y.length) (hsz : X.length + Y.length ≤ n + 1) (ha : a = L.length) (hm : m = L.length + X.length) (hb : b = L.length + X.length + Y.length) (hN : N = L.length + X.length + Y.length + R.length) (hd : N ≤ 100000) :
    Calls Tryd.prog 105 #[.slice (some ⟨g, 0, none⟩) N c, .int .i64 (a : Int), .int .i64 (m : Int), .int .i64 (b : Int), .func (Fn.func 76) #[] #[]] w fun e w' => e = .returned (.tuple #[]) ∧ ∃ Z, Z.Perm (X ++ Y) ∧ Z.Pairwise kle ∧ PRow w' g (L ++ (Z ++ R)) rest ∧ Gr g w w' := by
  have HR := Lib.hid hr
  have HX := Lib.hid hX
  have HY := Lib.hid hY
  have HSX := Lib.hid hsX
  have HSY := Lib.hid hsY
  have HIH := Lib.hid ih
  have ha2 : a ≤ 100000 := by omega
  have hm2 : m ≤ 100000 := by omega
  have hb2 : b ≤ 100000 := by omega
  have ham : a ≤ m := by omega
  have hmb : m ≤ b := by omega
  have hma : ((m : Int) - (a : Int) == 1) = false := by rw [beq_eq_false_iff_ne]; omega
  have hma2 : ¬ (m : Int) - (a : Int) = 1 := by omega
  have hbm : ((b : Int) - (m : Int) == 1) = false := by rw [beq_eq_false_iff_ne]; omega
  have hbm2 : ¬ (b : Int) - (m : Int) = 1 := by omega
  obtain ⟨mid, hmid⟩ : ∃ mid : Nat, ((a : Int) + (b : Int)) / 2 = (mid : Int) := ⟨(a + b) / 2, by omega⟩
  obtain ⟨nn, hnn⟩ : ∃ nn : Nat, (mid : Int) + (m : Int) = (nn : Int) := ⟨mid + m, by omega⟩
  have HM : Hid (2 * mid ≤ a + b ∧ a + b ≤ 2 * mid + 1 ∧ nn = mid + m ∧ a ≤ mid ∧ mid ≤ b) := Lib.hid (by omega)
  have hmd2 : mid ≤ 100000 := by omega
  have hnn2 : nn ≤ 200000 := by omega
  have HF := Lib.hid (And.intro ha (And.intro hm (And.intro hb hN)))
  have HZ := Lib.hid (And.intro h2X (And.intro h2Y hsz))
  have hE := keyEnters
  clear hr hX hY hsX hsY ih ha hm hb hN h2X h2Y hsz
  go_enter Tryd.func105, Tryd.ntmps105
  go_upto_if 140 with fail
  go_cut [20, 21] from 141 (fun y z wx => ∃ lo hi : Nat, y = .int .i64 (lo : Int) ∧ z = .int .i64 (hi : Int) ∧ Hid (a ≤ lo ∧ lo ≤ hi ∧ hi ≤ m ∧ hi ≤ mid ∧ nn ≤ lo + b ∧ (lo = a ∨ lo + b = nn) ∧ (hi = m ∨ hi = mid)) ∧ Hid (PRow wx g (L ++ (X ++ (Y ++ R))) rest) ∧ Hid (Gr g w wx))
  case first =>
    by_cases h : mid < m
    · have d1 : decide (mid < m) = true := decide_eq_true h
      have d2 : decide ((mid : Int) < (m : Int)) = true := decide_eq_true (by omega)
      have d3 : (mid : Int) < (m : Int) := by omega
      have HH := Lib.hid h
      clear h
      go_wp2_with fail
      go_meet
      case rel => exact ⟨nn - b, mid, by (congr 1; have := HM.out; have := HH.out; omega), rfl, Lib.hid (by have := HM.out; have := HH.out; omega), HR, Lib.hid (Gr.refl _ _)⟩
    · have d1 : decide (mid < m) = false := decide_eq_false h
      have d2 : decide ((mid : Int) < (m : Int)) = false := decide_eq_false (by omega)
      have d3 : (m : Int) ≤ (mid : Int) := by omega
      have HH : Hid (m ≤ mid) := Lib.hid (by omega)
      clear h
      go_wp2_with fail
      go_meet
      case rel => exact ⟨a, m, rfl, rfl, Lib.hid (by have := HM.out; have := HH.out; omega), HR, Lib.hid (Gr.refl _ _)⟩
  case rest =>
  obtain ⟨lo, hi, rfl, rfl, HLH, HP0, HG0⟩ := hcut
  have hlo : lo ≤ 100000 := by have := HLH.out; omega
  have hhi : hi ≤ 100000 := by have := HLH.out; omega
  go_wp2_with fail
  go_loopw [20, 21, 23] (fun i j h wr => SeC a m nn lo hi X Y g (L ++ (X ++ (Y ++ R))) rest w i j h wr) (fun i j _ _ => (intOf j).toNat - (intOf i).toNat)
  case atStart => exact ⟨lo, hi, rfl, rfl, Nat.le_refl _, HLH.out.2.1, Nat.le_refl _, Lib.hid (.inl rfl), Lib.hid (.inl rfl), HP0, HG0⟩
  case round =>
    obtain ⟨ns, nr, rfl, rfl, h1, h2, h3, HT, HD, HP, HG⟩ := hrel
    by_cases hlt : ns < nr
    · have hlt2 : (ns : Int) < (nr : Int) := by omega
      obtain ⟨cc, hcc⟩ : ∃ cc : Nat, ((ns : Int) + (nr : Int)) / 2 = (cc : Int) := ⟨(ns + nr) / 2, by omega⟩
      have hc1 : ns ≤ cc := by omega
      have hc2 : cc < nr := by omega
      obtain ⟨qq, hqq⟩ : ∃ qq : Nat, (nn : Int) - 1 - (cc : Int) = (qq : Int) := ⟨nn - 1 - cc, by have := HLH.out; have := HM.out; have := HZ.out; have := HF.out; omega⟩
      have HQ : Hid (qq = nn - 1 - cc ∧ m ≤ qq ∧ qq < b ∧ a ≤ cc ∧ cc < m) := Lib.hid (by have := HLH.out; have := HM.out; omega)
      have tx : cc - a < X.length := by have := HQ.out; have := HF.out; omega
      have ty : qq - m < Y.length := by have := HQ.out; have := HF.out; omega
      obtain ⟨x, hx⟩ : ∃ x, X[cc - a] = x := ⟨_, rfl⟩
      obtain ⟨y, hy⟩ : ∃ y, Y[qq - m] = y := ⟨_, rfl⟩
      have hxo : X[cc - a]? = some x := by rw [List.getElem?_eq_getElem tx, hx]
      have hyo : Y[qq - m]? = some y := by rw [List.getElem?_eq_getElem ty, hy]
      have e1 : (L ++ (X ++ (Y ++ R)))[cc]? = some x := by
        rw [show cc = L.length + (cc - a) by have := HQ.out; have := HF.out; omega, List.getElem?_append_right (by omega), Nat.add_sub_cancel_left, List.getElem?_append_left tx]
        exact hxo
      have e2 : (L ++ (X ++ (Y ++ R)))[qq]? = some y := by
        rw [show qq = L.length + (X.length + (qq - m)) by have := HQ.out; have := HF.out; omega, List.getElem?_append_right (by omega), Nat.add_sub_cancel_left, List.getElem?_append_right (by omega), Nat.add_sub_cancel_left, List.getElem?_append_left ty]
        exact hyo
      have hlx : leafP x := HX.out x (by rw [← hx]; exact List.getElem_mem tx)
      have hly : leafP y := HY.out y (by rw [← hy]; exact List.getElem_mem ty)
      obtain ⟨hi1, e1⟩ := List.getElem?_eq_some_iff.1 e1
      obtain ⟨hi2, e2⟩ := List.getElem?_eq_some_iff.1 e2
      have HT1 := HP.out.ten cc hi1
      have HT2 := HP.out.ten qq hi2
      rw [e1] at HT1
      rw [e2] at HT2
      obtain ⟨x0, x1, x2, x3, x4, x5, x6, x7, x8, x9⟩ := HT1
      obtain ⟨y0, y1, y2, y3, y4, y5, y6, y7, y8, y9⟩ := HT2
      have hcN : (cc : Int) < (N : Int) := by have := HQ.out; have := HF.out; omega
      have hqN : (qq : Int) < (N : Int) := by have := HQ.out; have := HF.out; omega
      have hw0 : IntKind.i64.wrap (qq : Int) = (qq : Int) := by rw [IntKind.wrap_i64]; omega
      have hw1 : IntKind.i64.wrap ((nn : Int) - 1 - (cc : Int)) = (qq : Int) := by rw [hqq]; exact hw0
      have hw2 : wrap64 ((nn : Int) - 1 - (cc : Int)) = (qq : Int) := by rw [hqq, wrap64_eq]; omega
      have hw3 : wrap64 (qq : Int) = (qq : Int) := by rw [wrap64_eq]; omega
      have HLX := Lib.hid hlx
      have HLY := Lib.hid hly
      have HXO := Lib.hid hxo
      have HYO := Lib.hid hyo
      clear tx ty hx hy hxo hyo hlx hly e1 e2 hi1 hi2
      go_upto_region 35 with fail
      clear hcc
      go_still_tail 11, (by kernel_rfl)
      change wpList _ _ _ _ _ wr.drew
      go_wp2_with fail
      refine (keyCmp y x HLY.out HLX.out wr.drew).mono ?_
      rintro e w1 ⟨rfl, hb1⟩
      clear x0 x1 x2 x3 x4 x5 x6 x7 x8 x9 y0 y1 y2 y3 y4 y5 y6 y7 y8 y9
      have HP3 := Lib.hid (show PRow w1 g (L ++ (X ++ (Y ++ R))) rest from Blk.below (show Blk wr.drew g _ _ from HP.out) hb1 (PRow.lt HP.out))
      have HG3 := Lib.hid (HG.out.drew.below hb1 (Nat.le_refl _))
      clear hb1 hw0 hw1 hw2 hw3 hqq hcN hqN
      by_cases hc : kc y x < 0
      · have qc : decide (kc y x < 0) = true := decide_eq_true hc
        have HC := Lib.hid hc
        clear hc
        go_wp2_with fail
        go_roundw
        case rel => exact ⟨ns, cc, rfl, rfl, h1, hc1, by omega, HT, Lib.hid (.inr ⟨x, y, HXO.out, by rw [← HQ.out.1]; exact HYO.out, HC.out⟩), HP3, HG3⟩
        case measure => simp [intOf]; omega
      · have qc : decide (kc y x < 0) = false := decide_eq_false hc
        have HC := Lib.hid (kc_le hc)
        clear hc
        go_wp2_with fail
        go_roundw
        case rel => exact ⟨cc + 1, nr, by go_num, rfl, by omega, by omega, h3, Lib.hid (.inr ⟨x, y, by rw [Nat.add_sub_cancel]; exact HXO.out, by rw [show nn - (cc + 1) = qq by have := HQ.out; omega]; exact HYO.out, HC.out⟩), HD, HP3, HG3⟩
        case measure => simp [intOf]; omega
    · obtain rfl : ns = nr := by omega
      obtain ⟨en, hen⟩ : ∃ en : Nat, (nn : Int) - (ns : Int) = (en : Int) := ⟨nn - ns, by have := HLH.out; have := HM.out; omega⟩
      have HEN : Hid (en = nn - ns ∧ m ≤ en ∧ en ≤ b ∧ a ≤ ns ∧ ns ≤ m ∧ ns ≤ mid ∧ mid ≤ en ∧ ns + en = mid + m) := Lib.hid (by have := HLH.out; have := HM.out; omega)
      have hen2 : en ≤ 100000 := by have := HEN.out; omega
      obtain ⟨X1, hX1⟩ : ∃ X1, X.take (ns - a) = X1 := ⟨_, rfl⟩
      obtain ⟨X2, hX2⟩ : ∃ X2, X.drop (ns - a) = X2 := ⟨_, rfl⟩
      obtain ⟨Y1, hY1⟩ : ∃ Y1, Y.take (en - m) = Y1 := ⟨_, rfl⟩
      obtain ⟨Y2, hY2⟩ : ∃ Y2, Y.drop (en - m) = Y2 := ⟨_, rfl⟩
      have hXX : X = X1 ++ X2 := by rw [← hX1, ← hX2, List.take_append_drop]
      have hYY : Y = Y1 ++ Y2 := by rw [← hY1, ← hY2, List.take_append_drop]
      have HLEN : Hid (X1.length = ns - a ∧ X2.length = m - ns ∧ Y1.length = en - m ∧ Y2.length = b - en) := Lib.hid (by
        have := HF.out
        have := HEN.out
        rw [← hX1, ← hX2, ← hY1, ← hY2, List.length_take, List.length_drop, List.length_take, List.length_drop]
        omega)
      have HXY : Hid (X = X1 ++ X2 ∧ Y = Y1 ++ Y2) := Lib.hid ⟨hXX, hYY⟩
      have HC1 : Hid (∀ p ∈ X1, ∀ q ∈ Y2, kle p q) := Lib.hid (by
        intro p hp q hq
        rcases HT.out with h | ⟨x, y, hx, hy, hxy⟩
        · have h9 := HLEN.out
          have h8 := HLH.out
          have h7 := HEN.out
          have h6 := HF.out
          rcases h8.2.2.2.2.2.1 with h5 | h5
          · have : X1 = [] := List.length_eq_zero_iff.1 (by omega)
            rw [this] at hp; cases hp
          · have : Y2 = [] := List.length_eq_zero_iff.1 (by omega)
            rw [this] at hq; cases hq
        · have h9 := HLEN.out
          have h0 : 0 < ns - a := by
            have : 0 < X1.length := List.length_pos_iff.2 (by rintro rfl; cases hp)
            omega
          rw [← hX1] at hp
          rw [← hY2] at hq
          have k1 : kle p x := take_last HSX.out h0 (by rw [show ns - a - 1 = ns - 1 - a by omega]; exact hx) hp
          have k2 : kle y q := drop_first HSY.out (by rw [show en - m = nn - ns - m by have := HEN.out; omega]; exact hy) hq
          exact kle_trans (kle_trans k1 hxy) k2)
      have HC2 : Hid (∀ p ∈ Y1, ∀ q ∈ X2, kle p q) := Lib.hid (by
        intro p hp q hq
        rcases HD.out with h | ⟨x, y, hx, hy, hxy⟩
        · have h9 := HLEN.out
          have h8 := HLH.out
          have h7 := HEN.out
          have h6 := HF.out
          rcases h8.2.2.2.2.2.2 with h5 | h5
          · have : X2 = [] := List.length_eq_zero_iff.1 (by omega)
            rw [this] at hq; cases hq
          · have : Y1 = [] := List.length_eq_zero_iff.1 (by omega)
            rw [this] at hp; cases hp
        · have h9 := HLEN.out
          have h0 : 0 < en - m := by
            have : 0 < Y1.length := List.length_pos_iff.2 (by rintro rfl; cases hp)
            omega
          rw [← hX2] at hq
          rw [← hY1] at hp
          have k1 : kle p y := take_last HSY.out h0 (by rw [show en - m - 1 = nn - 1 - ns - m by have := HEN.out; omega]; exact hy) hp
          have k2 : kle x q := drop_first HSX.out hx hq
          exact kle_trans (kle_trans k1 (kc_lt hxy)) k2)
      have HPd : Hid (PRow wr g (L ++ (X1 ++ (X2 ++ (Y1 ++ (Y2 ++ R))))) rest) := Lib.hid (by have h := HP.out; rw [hXX, hYY] at h; simp only [List.append_assoc] at h; exact h)
      clear hX1 hX2 hY1 hY2 hXX hYY hlt HT HD HP
      go_upto_region 39 with fail
      go_cut [185] from 178 (fun z wx => ∃ q : Bool, z = .bool q ∧ Hid (Two q ns m m en) ∧ Hid (PRow wx g (L ++ (X1 ++ (X2 ++ (Y1 ++ (Y2 ++ R))))) rest) ∧ Hid (Gr g w wx))
      case first =>
        have XP := HPd
        have XG := HG
        by_cases h1 : ns < m
        · by_cases h2 : m < en
          · have H12 : Hid (Two true ns m m en) := Lib.hid (two_yes ⟨h1, h2⟩)
            have d1 : decide ((ns : Int) < (m : Int)) = true := decide_eq_true (by omega)
            have e1 : decide (ns < m) = true := decide_eq_true (by omega)
            have i1 : (ns : Int) < (m : Int) := by omega
            have d2 : decide ((m : Int) < (en : Int)) = true := decide_eq_true (by omega)
            have e2 : decide (m < en) = true := decide_eq_true (by omega)
            have i2 : (m : Int) < (en : Int) := by omega
            go_wp2_with fail
            go_meet
            case rel => exact ⟨true, rfl, H12, XP, XG⟩
          · have H12 : Hid (Two false ns m m en) := Lib.hid (two_no (by omega))
            have d1 : decide ((ns : Int) < (m : Int)) = true := decide_eq_true (by omega)
            have e1 : decide (ns < m) = true := decide_eq_true (by omega)
            have i1 : (ns : Int) < (m : Int) := by omega
            have d2 : decide ((m : Int) < (en : Int)) = false := decide_eq_false (by omega)
            have e2 : decide (m < en) = false := decide_eq_false (by omega)
            have i2 : (en : Int) ≤ (m : Int) := by omega
            go_wp2_with fail
            go_meet
            case rel => exact ⟨false, rfl, H12, XP, XG⟩
        · have H12 : Hid (Two false ns m m en) := Lib.hid (two_no (by omega))
          have d1 : decide ((ns : Int) < (m : Int)) = false := decide_eq_false (by omega)
          have e1 : decide (ns < m) = false := decide_eq_false (by omega)
          have i1 : (m : Int) ≤ (ns : Int) := by omega
          go_wp2_with fail
          go_meet
          case rel => exact ⟨false, rfl, H12, XP, XG⟩
      case rest =>
      obtain ⟨q, rfl, HQ1, HP1, HG1⟩ := hcut
      clear HPd HG
      go_upto_if 185 with fail
      go_cut [24] from 186 (fun y wx => y = .int .i64 (en : Int) ∧ Hid (PRow wx g (L ++ (X1 ++ (Y1 ++ (X2 ++ (Y2 ++ R))))) rest) ∧ Hid (Gr g w wx))
      case first =>
        cases q with
        | true =>
          have HRO := Lib.hid (fun (za zm zb : Int) (e1 : za = ((L ++ X1).length : Int)) (e2 : zm = ((L ++ X1).length : Int) + X2.length) (e3 : zb = ((L ++ X1).length : Int) + X2.length + Y1.length) => rotateZ g c (.func (Fn.func 76) #[] #[]) (L ++ X1) X2 Y1 (Y2 ++ R) rest wc za zm zb N (by rw [List.append_assoc]; exact HP1.out) e1 e2 e3 (by have := HLEN.out; have := HF.out; have := HEN.out; rw [List.length_append, List.length_append]; omega) hd (by have := HLEN.out; have := HQ1.out.1 rfl; omega) (by have := HLEN.out; have := HQ1.out.1 rfl; omega))
          go_wp2_with fail
          refine (HRO.out _ _ _ (by have := HLEN.out; have := HF.out; have := HEN.out; rw [List.length_append]; omega) (by have := HLEN.out; have := HF.out; have := HEN.out; rw [List.length_append]; omega) (by have := HLEN.out; have := HF.out; have := HEN.out; rw [List.length_append]; omega)).mono ?_
          rintro e w1 ⟨rfl, hp, hg⟩
          have HP2 : Hid (PRow w1 g (L ++ (X1 ++ (Y1 ++ (X2 ++ (Y2 ++ R))))) rest) := Lib.hid (by rw [List.append_assoc] at hp; exact hp)
          have HG2 := Lib.hid (HG1.out.trans hg)
          clear hp hg HRO
          go_wp2_with fail
          go_meet
          case rel => exact ⟨rfl, HP2, HG2⟩
        | false =>
          have HP2 : Hid (PRow wc g (L ++ (X1 ++ (Y1 ++ (X2 ++ (Y2 ++ R))))) rest) := Lib.hid (by
            have h := HP1.out
            have h1 := HQ1.out.2 rfl
            have h2 := HLEN.out
            have h3 := HEN.out
            rcases Nat.lt_or_ge ns m with h4 | h4
            · have : Y1 = [] := List.length_eq_zero_iff.1 (by omega)
              rw [this] at h ⊢; simpa using h
            · have : X2 = [] := List.length_eq_zero_iff.1 (by omega)
              rw [this] at h ⊢; simpa using h)
          go_wp2_with fail
          go_meet
          case rel => exact ⟨rfl, HP2, HG1⟩
      case rest =>
      obtain ⟨rfl, HP2, HG2⟩ := hcut
      clear HP1 HG1
      go_upto_region 41 with fail
      go_cut [199] from 192 (fun z wx => ∃ q : Bool, z = .bool q ∧ Hid (Two q a ns ns mid) ∧ Hid (PRow wx g (L ++ (X1 ++ (Y1 ++ (X2 ++ (Y2 ++ R))))) rest) ∧ Hid (Gr g w wx))
      case first =>
        have XP := HP2
        have XG := HG2
        by_cases h1 : a < ns
        · by_cases h2 : ns < mid
          · have H12 : Hid (Two true a ns ns mid) := Lib.hid (two_yes ⟨h1, h2⟩)
            have d1 : decide ((a : Int) < (ns : Int)) = true := decide_eq_true (by omega)
            have e1 : decide (a < ns) = true := decide_eq_true (by omega)
            have i1 : (a : Int) < (ns : Int) := by omega
            have d2 : decide ((ns : Int) < (mid : Int)) = true := decide_eq_true (by omega)
            have e2 : decide (ns < mid) = true := decide_eq_true (by omega)
            have i2 : (ns : Int) < (mid : Int) := by omega
            go_wp2_with fail
            go_meet
            case rel => exact ⟨true, rfl, H12, XP, XG⟩
          · have H12 : Hid (Two false a ns ns mid) := Lib.hid (two_no (by omega))
            have d1 : decide ((a : Int) < (ns : Int)) = true := decide_eq_true (by omega)
            have e1 : decide (a < ns) = true := decide_eq_true (by omega)
            have i1 : (a : Int) < (ns : Int) := by omega
            have d2 : decide ((ns : Int) < (mid : Int)) = false := decide_eq_false (by omega)
            have e2 : decide (ns < mid) = false := decide_eq_false (by omega)
            have i2 : (mid : Int) ≤ (ns : Int) := by omega
            go_wp2_with fail
            go_meet
            case rel => exact ⟨false, rfl, H12, XP, XG⟩
        · have H12 : Hid (Two false a ns ns mid) := Lib.hid (two_no (by omega))
          have d1 : decide ((a : Int) < (ns : Int)) = false := decide_eq_false (by omega)
          have e1 : decide (a < ns) = false := decide_eq_false (by omega)
          have i1 : (ns : Int) ≤ (a : Int) := by omega
          go_wp2_with fail
          go_meet
          case rel => exact ⟨false, rfl, H12, XP, XG⟩
      case rest =>
      obtain ⟨q2, rfl, HQ2, HP3, HG3⟩ := hcut
      clear HP2 HG2
      go_upto_if 199 with fail
      go_cut [24] from 200 (fun y wx => ∃ Z1 : List PEnt, y = .int .i64 (en : Int) ∧ Hid (Z1.Perm (X1 ++ Y1) ∧ Z1.Pairwise kle) ∧ Hid (PRow wx g (L ++ (Z1 ++ (X2 ++ (Y2 ++ R)))) rest) ∧ Hid (Gr g w wx))
      case first =>
        have HS1 : Hid (X1.Pairwise kle ∧ Y1.Pairwise kle) := Lib.hid (by
          have h1 := HSX.out
          have h2 := HSY.out
          rw [HXY.out.1] at h1
          rw [HXY.out.2] at h2
          exact ⟨(List.pairwise_append.1 h1).1, (List.pairwise_append.1 h2).1⟩)
        cases q2 with
        | true =>
          have HRO := Lib.hid (HIH.out g c L X1 Y1 (X2 ++ (Y2 ++ R)) rest wc a ns mid N HP3.out (fun x hx => HX.out x (by rw [HXY.out.1]; simp [hx])) (fun y hy => HY.out y (by rw [HXY.out.2]; simp [hy])) HS1.out.1 HS1.out.2 (by have := HLEN.out; have := HQ2.out.1 rfl; omega) (by have := HLEN.out; have := HQ2.out.1 rfl; have := HEN.out; omega) (by have := HLEN.out; have := HEN.out; have := HM.out; have := HZ.out; have := HF.out; omega) HF.out.1 (by have := HLEN.out; have := HF.out; have := HEN.out; omega) (by have := HLEN.out; have := HF.out; have := HEN.out; omega) (by have := HLEN.out; have := HF.out; have := HEN.out; rw [List.length_append, List.length_append]; omega) hd)
          go_wp2_with fail
          refine HRO.out.mono ?_
          rintro e w1 ⟨rfl, Z1, z1, z2, hp, hg⟩
          have HZ1 := Lib.hid (And.intro z1 z2)
          have HP4 := Lib.hid hp
          have HG4 := Lib.hid (HG3.out.trans hg)
          clear hp hg z1 z2 HRO
          go_wp2_with fail
          go_meet
          case rel => exact ⟨Z1, rfl, HZ1, HP4, HG4⟩
        | false =>
          have HZ1 : Hid ((X1 ++ Y1).Perm (X1 ++ Y1) ∧ (X1 ++ Y1).Pairwise kle) := Lib.hid (by
            refine ⟨List.Perm.refl _, ?_⟩
            have h1 := HQ2.out.2 rfl
            have h2 := HLEN.out
            have h3 := HEN.out
            rcases Nat.lt_or_ge a ns with h4 | h4
            · have : Y1 = [] := List.length_eq_zero_iff.1 (by omega)
              rw [this, List.append_nil]; exact HS1.out.1
            · have : X1 = [] := List.length_eq_zero_iff.1 (by omega)
              rw [this, List.nil_append]; exact HS1.out.2)
          have HP4 : Hid (PRow wc g (L ++ ((X1 ++ Y1) ++ (X2 ++ (Y2 ++ R)))) rest) := Lib.hid (by rw [List.append_assoc]; exact HP3.out)
          go_wp2_with fail
          go_meet
          case rel => exact ⟨X1 ++ Y1, rfl, HZ1, HP4, HG3⟩
      case rest =>
      obtain ⟨Z1, rfl, HZ1, HP4, HG4⟩ := hcut
      clear HP3 HG3
      go_upto_region 43 with fail
      go_cut [213] from 206 (fun z wx => ∃ q : Bool, z = .bool q ∧ Hid (Two q mid en en b) ∧ Hid (PRow wx g (L ++ (Z1 ++ (X2 ++ (Y2 ++ R)))) rest) ∧ Hid (Gr g w wx))
      case first =>
        have XP := HP4
        have XG := HG4
        by_cases h1 : mid < en
        · by_cases h2 : en < b
          · have H12 : Hid (Two true mid en en b) := Lib.hid (two_yes ⟨h1, h2⟩)
            have d1 : decide ((mid : Int) < (en : Int)) = true := decide_eq_true (by omega)
            have e1 : decide (mid < en) = true := decide_eq_true (by omega)
            have i1 : (mid : Int) < (en : Int) := by omega
            have d2 : decide ((en : Int) < (b : Int)) = true := decide_eq_true (by omega)
            have e2 : decide (en < b) = true := decide_eq_true (by omega)
            have i2 : (en : Int) < (b : Int) := by omega
            go_wp2_with fail
            go_meet
            case rel => exact ⟨true, rfl, H12, XP, XG⟩
          · have H12 : Hid (Two false mid en en b) := Lib.hid (two_no (by omega))
            have d1 : decide ((mid : Int) < (en : Int)) = true := decide_eq_true (by omega)
            have e1 : decide (mid < en) = true := decide_eq_true (by omega)
            have i1 : (mid : Int) < (en : Int) := by omega
            have d2 : decide ((en : Int) < (b : Int)) = false := decide_eq_false (by omega)
            have e2 : decide (en < b) = false := decide_eq_false (by omega)
            have i2 : (b : Int) ≤ (en : Int) := by omega
            go_wp2_with fail
            go_meet
            case rel => exact ⟨false, rfl, H12, XP, XG⟩
        · have H12 : Hid (Two false mid en en b) := Lib.hid (two_no (by omega))
          have d1 : decide ((mid : Int) < (en : Int)) = false := decide_eq_false (by omega)
          have e1 : decide (mid < en) = false := decide_eq_false (by omega)
          have i1 : (en : Int) ≤ (mid : Int) := by omega
          go_wp2_with fail
          go_meet
          case rel => exact ⟨false, rfl, H12, XP, XG⟩
      case rest =>
      obtain ⟨q3, rfl, HQ3, HP5, HG5⟩ := hcut
      clear HP4 HG4
      have HS2 : Hid (X2.Pairwise kle ∧ Y2.Pairwise kle ∧ (X1 ++ X2).Pairwise kle ∧ (Y1 ++ Y2).Pairwise kle) := Lib.hid (by
        have h1 := HSX.out
        have h2 := HSY.out
        rw [HXY.out.1] at h1
        rw [HXY.out.2] at h2
        exact ⟨(List.pairwise_append.1 h1).2.1, (List.pairwise_append.1 h2).2.1, h1, h2⟩)
      have HLZ : Hid (Z1.length = mid - a) := Lib.hid (by have := HZ1.out.1.length_eq; rw [List.length_append] at this; have := HLEN.out; have := HEN.out; omega)
      go_upto_if 213 with fail
      cases q3 with
      | true =>
        have HRO := Lib.hid (HIH.out g c (L ++ Z1) X2 Y2 R rest wc mid en b N (by rw [List.append_assoc]; exact HP5.out) (fun x hx => HX.out x (by rw [HXY.out.1]; simp [hx])) (fun y hy => HY.out y (by rw [HXY.out.2]; simp [hy])) HS2.out.1 HS2.out.2.1 (by have := HLEN.out; have := HQ3.out.1 rfl; have := HEN.out; omega) (by have := HLEN.out; have := HQ3.out.1 rfl; have := HEN.out; omega) (by have := HLEN.out; have := HEN.out; have := HM.out; have := HZ.out; have := HF.out; omega) (by have := HLZ.out; have := HF.out; have := HM.out; rw [List.length_append]; omega) (by have := HLZ.out; have := HF.out; have := HM.out; have := HLEN.out; have := HEN.out; rw [List.length_append]; omega) (by have := HLZ.out; have := HF.out; have := HM.out; have := HLEN.out; have := HEN.out; rw [List.length_append]; omega) (by have := HLZ.out; have := HF.out; have := HM.out; have := HLEN.out; have := HEN.out; rw [List.length_append]; omega) hd)
        go_wp2_with fail
        refine HRO.out.mono ?_
        rintro e w1 ⟨rfl, Z2, z1, z2, hp, hg⟩
        have HE9 := Lib.hid (merge_fin HZ1.out.1 HZ1.out.2 z1 z2 HS2.out.2.2.1 HS2.out.2.2.2 HC1.out HC2.out)
        have HP6 : Hid (PRow w1 g (L ++ ((Z1 ++ Z2) ++ R)) rest) := Lib.hid (by simp only [List.append_assoc] at hp ⊢; exact hp)
        have HG6 := Lib.hid (HG5.out.trans hg)
        clear hp hg z1 z2 HRO
        go_wp2_with fail
        first | go_end0 | refine bodyPost_ret (results_none rfl _ _ _) rfl ?_
        exact ⟨rfl, Z1 ++ Z2, by rw [HXY.out.1, HXY.out.2]; exact HE9.out.1, HE9.out.2, HP6.out, HG6.out⟩
      | false =>
        have HZ2 : Hid ((X2 ++ Y2).Pairwise kle) := Lib.hid (by
          have h1 := HQ3.out.2 rfl
          have h2 := HLEN.out
          have h3 := HEN.out
          rcases Nat.lt_or_ge mid en with h4 | h4
          · have : Y2 = [] := List.length_eq_zero_iff.1 (by omega)
            rw [this, List.append_nil]; exact HS2.out.1
          · have : X2 = [] := List.length_eq_zero_iff.1 (by omega)
            rw [this, List.nil_append]; exact HS2.out.2.1)
        have HE9 := Lib.hid (merge_fin HZ1.out.1 HZ1.out.2 (List.Perm.refl (X2 ++ Y2)) HZ2.out HS2.out.2.2.1 HS2.out.2.2.2 HC1.out HC2.out)
        have HP6 : Hid (PRow wc g (L ++ ((Z1 ++ (X2 ++ Y2)) ++ R)) rest) := Lib.hid (by have h := HP5.out; simp only [List.append_assoc] at h ⊢; exact h)
        go_wp2_with fail
        first | go_end0 | refine bodyPost_ret (results_none rfl _ _ _) rfl ?_
        exact ⟨rfl, Z1 ++ (X2 ++ Y2), by rw [HXY.out.1, HXY.out.2]; exact HE9.out.1, HE9.out.2, HP6.out, HG5.out⟩
end Go.Proofs.YtcjamnfboifjeaaDoor

/-
  slices.SortStableFunc over pairs.
-/
namespace Go.Proofs.YtcjamnfboifjeaaDoor
open Go.RowKit
set_option linter.unusedVariables false
set_option linter.unusedSimpArgs false
set_option maxRecDepth 100000

theorem symAll : ∀ n, SymSaid n
  | 0 => by
    intro g c L X Y R rest w a m b N _ _ _ _ _ h1 h2 h3
    omega
  | n + 1 => by
    intro g c L X Y R rest w a m b N hr hX hY sX sY h1 h2 h3 ha hm hb hN hd
    by_cases e1 : X.length = 1
    · obtain ⟨x, rfl⟩ := List.length_eq_one_iff.1 e1
      exact symA g c L x Y R rest w a m b N hr (hX x (by simp)) hY sY ha (by simpa using hm) (by simpa using hb) (by simpa using hN) hd
    · by_cases e2 : Y.length = 1
      · obtain ⟨y, rfl⟩ := List.length_eq_one_iff.1 e2
        exact symB g c L X y R rest w a m b N hr (hY y (by simp)) hX sX ha hm (by simpa using hb) (by simpa using hN) hd (by omega)
      · exact symC n (symAll n) g c L X Y R rest w a m b N hr hX hY sX sY (by omega) (by omega) h3 ha hm hb hN hd
/-- Every run of s, from the first on, is in order. -/
def Ch (s : Nat) (l : List PEnt) : Prop := ∀ k, ((l.drop (k * s)).take s).Pairwise kle
theorem Ch.nil (s : Nat) : Ch s [] := fun k => by simp
theorem Ch.all {s : Nat} {l : List PEnt} (h : Ch s l) (hl : l.length ≤ s) : l.Pairwise kle := by
  have h0 := h 0
  rw [Nat.zero_mul, List.drop_zero, List.take_of_length_le hl] at h0
  exact h0
theorem Ch.one {s : Nat} {X Q : List PEnt} (h : Ch s (X ++ Q)) (hX : X.length = s) : X.Pairwise kle ∧ Ch s Q := by
  constructor
  · have h0 := h 0
    rw [Nat.zero_mul, List.drop_zero, List.take_append_of_le_length (by omega), List.take_of_length_le (by omega)] at h0
    exact h0
  · intro k
    have hk := h (k + 1)
    rw [Nat.add_mul, Nat.one_mul, List.drop_append, List.drop_eq_nil_of_le (by omega), List.nil_append, show k * s + s - X.length = k * s by omega] at hk
    exact hk
theorem Ch.app {s j : Nat} {P Z : List PEnt} (h : Ch s P) (hP : P.length = s * j) (hZ : Z.Pairwise kle) (hl : Z.length ≤ s) : Ch s (P ++ Z) := by
  intro k
  rcases Nat.lt_or_ge k j with hk | hk
  · have h1 : k * s + s ≤ P.length := by rw [hP, Nat.mul_comm s j]; have := Nat.mul_le_mul_right s (show k + 1 ≤ j by omega); rw [Nat.add_mul, Nat.one_mul] at this; exact this
    rw [List.drop_append_of_le_length (by omega), List.take_append_of_le_length (by rw [List.length_drop]; omega)]
    exact h k
  · have h1 : P.length ≤ k * s := by rw [hP, Nat.mul_comm s j]; exact Nat.mul_le_mul_right s hk
    rw [List.drop_append, List.drop_eq_nil_of_le h1, List.nil_append]
    exact (hZ.sublist (List.drop_sublist _ _)).sublist (List.take_sublist _ _)
/-- The first loop: runs of 20. -/
def St1 (g : Nat) (D : List PEnt) (rest : List Value) (w : World) (a b : Value) (wr : World) : Prop :=
  ∃ (P U : List PEnt) (an bn : Nat), a = .int .i64 (an : Int) ∧ b = .int .i64 (bn : Int) ∧ an ≤ 100020 ∧ bn ≤ 100040 ∧ Hid (an = P.length ∧ bn = an + 20 ∧ an ≤ D.length ∧ ∃ j, P.length = 20 * j) ∧ Hid (Ch 20 P) ∧ Hid ((P ++ U).Perm D) ∧ Hid (PRow wr g (P ++ U) rest) ∧ Hid (Gr g w wr)
/-- The outer loop: runs of s. -/
def St2 (g : Nat) (D : List PEnt) (rest : List Value) (w : World) (s a b m : Value) (wr : World) : Prop :=
  ∃ (l : List PEnt) (sn : Nat), s = .int .i64 (sn : Int) ∧ sn ≤ 200000 ∧ 0 < sn ∧ Hid (Ch sn l) ∧ Hid (l.Perm D) ∧ Hid (PRow wr g l rest) ∧ Hid (Gr g w wr)
/-- The inner loop: runs of s, two by two, to runs of 2 s. -/
def St3 (g sn : Nat) (D : List PEnt) (rest : List Value) (w : World) (a b : Value) (wr : World) : Prop :=
  ∃ (P Q : List PEnt) (an bn : Nat), a = .int .i64 (an : Int) ∧ b = .int .i64 (bn : Int) ∧ an ≤ 100020 ∧ bn ≤ 600000 ∧ Hid (an = P.length ∧ bn = an + 2 * sn ∧ an ≤ D.length ∧ ∃ j, P.length = 2 * sn * j) ∧ Hid (Ch (2 * sn) P) ∧ Hid (Ch sn Q) ∧ Hid ((P ++ Q).Perm D) ∧ Hid (PRow wr g (P ++ Q) rest) ∧ Hid (Gr g w wr)
set_option maxHeartbeats 8000000 in
theorem stable (g c : Nat) (D : List PEnt) (rest : List Value) (w : World) (N : Nat) (hr : PRow w g D rest) (hD : ∀ x ∈ D, leafP x) (hN : N = D.length) (hd : N ≤ 100000) :
    Calls Tryd.prog 92 #[.slice (some ⟨g, 0, none⟩) N c, .int .i64 (N : Int), .func (Fn.func 76) #[] #[]] w fun e w' => e = .returned (.tuple #[]) ∧ ∃ Z, Z.Perm D ∧ Z.Pairwise kle ∧ PRow w' g Z rest ∧ Gr g w w' := by
  have HR := Lib.hid hr
  have HD := Lib.hid hD
  have HN := Lib.hid hN
  clear hr hD hN
  go_enter Tryd.func92, Tryd.ntmps92
  go_wp2_with fail
  go_loopw [7, 8] (fun a b wr => St1 g D rest w a b wr) (fun a _ _ => N + 20 - (intOf a).toNat)
  case atStart => exact ⟨[], D, 0, 20, rfl, rfl, by omega, by omega, Lib.hid ⟨rfl, rfl, Nat.zero_le _, 0, rfl⟩, Lib.hid (Ch.nil 20), Lib.hid (List.Perm.refl _), HR, Lib.hid (Gr.refl _ _)⟩
  case round =>
    obtain ⟨P, U, an, bn, rfl, rfl, ha, hb, HI, HC, HPM, HP, HG⟩ := hrel
    have HLEN : Hid (P.length + U.length = N) := Lib.hid (by have := HPM.out.length_eq; rw [List.length_append] at this; have := HN.out; omega)
    by_cases hle : bn ≤ N
    · have hle2 : (bn : Int) ≤ (N : Int) := by omega
      obtain ⟨X, U', hU, hX⟩ : ∃ X U', U = X ++ U' ∧ X.length = 20 := ⟨U.take 20, U.drop 20, (List.take_append_drop _ _).symm, by rw [List.length_take]; have := HLEN.out; have := HI.out; omega⟩
      have HU := Lib.hid (And.intro hU hX)
      have HCALL := Lib.hid (insSort g c P X U' rest wr an bn N (by have h := HP.out; rw [hU] at h; exact h) (fun x hx => HD.out x (HPM.out.subset (by rw [hU]; simp [hx]))) HI.out.1 (by have := HI.out; omega) (by have := HLEN.out; rw [hU, List.length_append] at this; omega) hd)
      clear hU hX
      go_wp2_with fail
      refine HCALL.out.mono ?_
      rintro e w1 ⟨rfl, Z, z1, z2, z3, z4⟩
      have HZ := Lib.hid (And.intro z1 z2)
      have HP1 : Hid (PRow w1 g ((P ++ Z) ++ U') rest) := Lib.hid (by rw [List.append_assoc]; exact z3)
      have HG1 := Lib.hid (HG.out.trans z4)
      clear z1 z2 z3 z4 HCALL
      have HLZ : Hid (Z.length = 20) := Lib.hid (HZ.out.1.length_eq.trans HU.out.2)
      go_wp2_with fail
      go_roundw
      case rel => exact ⟨P ++ Z, U', bn, bn + 20, rfl, by go_num, by omega, by omega, Lib.hid (by have h1 := HI.out; have h2 := HLZ.out; have h3 := HN.out; obtain ⟨j, hj⟩ := h1.2.2.2; rw [List.length_append]; exact ⟨by omega, rfl, by omega, j + 1, by omega⟩), Lib.hid (by obtain ⟨j, hj⟩ := HI.out.2.2.2; exact HC.out.app hj HZ.out.2 (by have := HLZ.out; omega)), Lib.hid (by
        have h := HPM.out
        rw [HU.out.1] at h
        refine List.Perm.trans ?_ h
        rw [List.append_assoc]
        exact List.Perm.append_left P (List.Perm.append_right U' HZ.out.1)), HP1, HG1⟩
      case measure => simp [intOf]; have := HI.out; omega
    · have hgt : (N : Int) < (bn : Int) := by omega
      have hgt2 : ¬ (bn : Int) ≤ (N : Int) := by omega
      have HCALL := Lib.hid (insSort g c P U [] rest wr an N N (by rw [List.append_nil]; exact HP.out) (fun x hx => HD.out x (HPM.out.subset (by simp [hx]))) HI.out.1 (by have := HLEN.out; omega) (by have := HLEN.out; simp; omega) hd)
      have HLU : Hid (U.length ≤ 20) := Lib.hid (by have := HLEN.out; have := HI.out; omega)
      clear hle
      go_wp2_with fail
      refine HCALL.out.mono ?_
      rintro e w1 ⟨rfl, Z, z1, z2, z3, z4⟩
      have HC1 : Hid (Ch 20 (P ++ Z)) := Lib.hid (by obtain ⟨j, hj⟩ := HI.out.2.2.2; exact HC.out.app hj z2 (by have := HLU.out; have := z1.length_eq; omega))
      have HPM1 : Hid ((P ++ Z).Perm D) := Lib.hid ((List.Perm.append_left P z1).trans HPM.out)
      have HP1 : Hid (PRow w1 g (P ++ Z) rest) := Lib.hid (by rw [List.append_nil] at z3; exact z3)
      have HG1 := Lib.hid (HG.out.trans z4)
      clear z1 z2 z3 z4 HCALL HC HPM HP HG HLEN HLU HI
      go_wp2_with fail
      go_loopw [6, 7, 8, 9] (fun s a b m wr => St2 g D rest w s a b m wr) (fun s _ _ _ _ => N + 1 - (intOf s).toNat)
      case atStart => exact ⟨P ++ Z, 20, rfl, by omega, by omega, HC1, HPM1, HP1, HG1⟩
      case round =>
        obtain ⟨l, sn, rfl, hs, hs0, HC, HPM, HP, HG⟩ := hrel
        have HLL : Hid (l.length = N) := Lib.hid (by have := HPM.out.length_eq; have := HN.out; omega)
        by_cases hlt : sn < N
        · have hlt2 : (sn : Int) < (N : Int) := by omega
          go_wp2_with fail
          go_loopw [7, 8] (fun a b wr => St3 g sn D rest w a b wr) (fun a _ _ => N + 2 * sn - (intOf a).toNat)
          case atStart => exact ⟨[], l, 0, 2 * sn, rfl, by go_num, by omega, by omega, Lib.hid ⟨rfl, by omega, Nat.zero_le _, 0, by simp⟩, Lib.hid (Ch.nil _), HC, HPM, HP, HG⟩
          case round =>
            obtain ⟨P', Q, an2, bn2, rfl, rfl, ha3, hb3, HI3, HC3, HQ3, HPM3, HP3, HG3⟩ := hrel
            have HLQ : Hid (P'.length + Q.length = N) := Lib.hid (by have := HPM3.out.length_eq; rw [List.length_append] at this; have := HN.out; omega)
            have hwz : IntKind.i64.wrap ((an2 : Int) + (sn : Int)) = (an2 : Int) + (sn : Int) := by rw [IntKind.wrap_i64]; omega
            by_cases hle3 : bn2 ≤ N
            · have hle4 : (bn2 : Int) ≤ (N : Int) := by omega
              obtain ⟨X, Q1, hQ1, hX1⟩ : ∃ X Q1, Q = X ++ Q1 ∧ X.length = sn := ⟨Q.take sn, Q.drop sn, (List.take_append_drop _ _).symm, by rw [List.length_take]; have := HLQ.out; have := HI3.out; omega⟩
              obtain ⟨Y, Q2, hQ2, hY1⟩ : ∃ Y Q2, Q1 = Y ++ Q2 ∧ Y.length = sn := ⟨Q1.take sn, Q1.drop sn, (List.take_append_drop _ _).symm, by rw [List.length_take]; have h1 := HLQ.out; have h2 := HI3.out; rw [hQ1, List.length_append] at h1; omega⟩
              have HQS : Hid (Q = X ++ (Y ++ Q2) ∧ X.length = sn ∧ Y.length = sn ∧ 0 < sn) := Lib.hid ⟨by rw [hQ1, hQ2], hX1, hY1, hs0⟩
              have HSS : Hid (X.Pairwise kle ∧ Y.Pairwise kle ∧ Ch sn Q2) := Lib.hid (by
                have h := HQ3.out
                rw [hQ1] at h
                obtain ⟨k1, k2⟩ := h.one hX1
                rw [hQ2] at k2
                obtain ⟨k3, k4⟩ := k2.one hY1
                exact ⟨k1, k3, k4⟩)
              clear hQ1 hX1 hQ2 hY1
              have HCALL := Lib.hid (fun (zm : Int) (e : zm = (an2 : Int) + (sn : Int)) => (show Calls Tryd.prog 105 #[.slice (some ⟨g, 0, none⟩) N c, .int .i64 (an2 : Int), .int .i64 zm, .int .i64 (bn2 : Int), .func (Fn.func 76) #[] #[]] wr fun e w' => e = .returned (.tuple #[]) ∧ ∃ Z, Z.Perm (X ++ Y) ∧ Z.Pairwise kle ∧ PRow w' g (P' ++ (Z ++ Q2)) rest ∧ Gr g wr w' from by
                have h := symAll (sn + sn) g c P' X Y Q2 rest wr an2 (an2 + sn) bn2 N (by have h := HP3.out; rw [HQS.out.1] at h; simpa using h) (fun x hx => HD.out x (HPM3.out.subset (by rw [HQS.out.1]; simp [hx]))) (fun x hx => HD.out x (HPM3.out.subset (by rw [HQS.out.1]; simp [hx]))) HSS.out.1 HSS.out.2.1 (by have := HQS.out; omega) (by have := HQS.out; omega) (by have := HQS.out; omega) HI3.out.1 (by have := HQS.out; have := HI3.out; omega) (by have h1 := HQS.out; have h2 := HI3.out; have h3 := HLQ.out; have h4 := congrArg List.length h1.1; simp only [List.length_append, List.length_nil] at h4; omega) (by have h1 := HQS.out; have h2 := HI3.out; have h3 := HLQ.out; have h4 := congrArg List.length h1.1; simp only [List.length_append, List.length_nil] at h4; (try simp only [List.length_nil]); omega) hd
                rw [show ((an2 + sn : Nat) : Int) = zm by omega] at h
                exact h))
              clear hle3
              go_wp2_with fail
              refine (HCALL.out _ (by omega)).mono ?_
              rintro e w1 ⟨rfl, Z, z1, z2, z3, z4⟩
              have HZ := Lib.hid (And.intro z1 z2)
              have HP4 : Hid (PRow w1 g ((P' ++ Z) ++ Q2) rest) := Lib.hid (by rw [List.append_assoc]; exact z3)
              have HG4 := Lib.hid (HG3.out.trans z4)
              clear z1 z2 z3 z4 HCALL
              have HLZ : Hid (Z.length = 2 * sn) := Lib.hid (by have h1 := HZ.out.1.length_eq; rw [List.length_append] at h1; have := HQS.out; omega)
              go_wp2_with fail
              go_roundw
              case rel => exact ⟨P' ++ Z, Q2, bn2, bn2 + 2 * sn, rfl, by go_num, by omega, by omega, Lib.hid (by have h1 := HI3.out; have h2 := HLZ.out; have h3 := HN.out; obtain ⟨j, hj⟩ := h1.2.2.2; rw [List.length_append]; exact ⟨by omega, rfl, by omega, j + 1, by rw [hj, h2, Nat.mul_add, Nat.mul_one]⟩), Lib.hid (by obtain ⟨j, hj⟩ := HI3.out.2.2.2; exact HC3.out.app hj HZ.out.2 (by have := HLZ.out; omega)), Lib.hid HSS.out.2.2, Lib.hid (by
                have h := HPM3.out
                rw [HQS.out.1] at h
                refine List.Perm.trans ?_ h
                rw [List.append_assoc]
                refine List.Perm.append_left P' ?_
                rw [← List.append_assoc]
                exact List.Perm.append_right Q2 HZ.out.1), HP4, HG4⟩
              case measure => simp [intOf]; have := HI3.out; omega
            · have hgt3 : (N : Int) < (bn2 : Int) := by omega
              have hgt4 : ¬ (bn2 : Int) ≤ (N : Int) := by omega
              have hQ2s : Hid (Q.length ≤ 2 * sn) := Lib.hid (by have := HLQ.out; have := HI3.out; omega)
              by_cases hm3 : an2 + sn < N
              · have hm4 : (an2 : Int) + (sn : Int) < (N : Int) := by omega
                obtain ⟨X, Y, hQ1, hX1⟩ : ∃ X Y, Q = X ++ Y ∧ X.length = sn := ⟨Q.take sn, Q.drop sn, (List.take_append_drop _ _).symm, by rw [List.length_take]; have := HLQ.out; have := HI3.out; omega⟩
                have HQS : Hid (Q = X ++ (Y ++ []) ∧ X.length = sn ∧ 0 < Y.length ∧ Y.length ≤ sn ∧ 0 < sn) := Lib.hid (by
                  have h1 := HLQ.out
                  have h2 := HI3.out
                  have h3 := hQ2s.out
                  rw [hQ1, List.length_append] at h1 h3
                  exact ⟨by rw [List.append_nil]; exact hQ1, hX1, by omega, by omega, hs0⟩)
                have HSS : Hid (X.Pairwise kle ∧ Y.Pairwise kle ∧ True) := Lib.hid (by
                  have h := HQ3.out
                  rw [hQ1] at h
                  obtain ⟨k1, k2⟩ := h.one hX1
                  exact ⟨k1, k2.all (by have := HQS.out; omega), trivial⟩)
                clear hQ1 hX1
                have HCALL := Lib.hid (fun (zm : Int) (e : zm = (an2 : Int) + (sn : Int)) => (show Calls Tryd.prog 105 #[.slice (some ⟨g, 0, none⟩) N c, .int .i64 (an2 : Int), .int .i64 zm, .int .i64 (N : Int), .func (Fn.func 76) #[] #[]] wr fun e w' => e = .returned (.tuple #[]) ∧ ∃ Z, Z.Perm (X ++ Y) ∧ Z.Pairwise kle ∧ PRow w' g (P' ++ (Z ++ [])) rest ∧ Gr g wr w' from by
                have h := symAll (sn + sn) g c P' X Y [] rest wr an2 (an2 + sn) N N (by have h := HP3.out; rw [HQS.out.1] at h; simpa using h) (fun x hx => HD.out x (HPM3.out.subset (by rw [HQS.out.1]; simp [hx]))) (fun x hx => HD.out x (HPM3.out.subset (by rw [HQS.out.1]; simp [hx]))) HSS.out.1 HSS.out.2.1 (by have := HQS.out; omega) (by have := HQS.out; omega) (by have := HQS.out; omega) HI3.out.1 (by have := HQS.out; have := HI3.out; omega) (by have h1 := HQS.out; have h2 := HI3.out; have h3 := HLQ.out; have h4 := congrArg List.length h1.1; simp only [List.length_append, List.length_nil] at h4; omega) (by have h1 := HQS.out; have h2 := HI3.out; have h3 := HLQ.out; have h4 := congrArg List.length h1.1; simp only [List.length_append, List.length_nil] at h4; (try simp only [List.length_nil]); omega) hd
                rw [show ((an2 + sn : Nat) : Int) = zm by omega] at h
                exact h))
                clear hle3 hm3
                go_wp2_with fail
                refine (HCALL.out _ (by omega)).mono ?_
                rintro e w1 ⟨rfl, Z, z1, z2, z3, z4⟩
                have HZ := Lib.hid (And.intro z1 z2)
                have HP4 : Hid (PRow w1 g (P' ++ Z) rest) := Lib.hid (by rw [List.append_nil] at z3; exact z3)
                have HG4 := Lib.hid (HG3.out.trans z4)
                clear z1 z2 z3 z4 HCALL
                have HLZ : Hid (Z.length ≤ 2 * sn) := Lib.hid (by have h1 := HZ.out.1.length_eq; rw [List.length_append] at h1; have := HQS.out; omega)
                go_wp2_with fail
                go_roundw
                case rel => exact ⟨P' ++ Z, 2 * sn, by go_num, by omega, by omega, Lib.hid (by obtain ⟨j, hj⟩ := HI3.out.2.2.2; exact HC3.out.app hj HZ.out.2 HLZ.out), Lib.hid (by
                  have h := HPM3.out
                  rw [HQS.out.1, List.append_nil] at h
                  exact (List.Perm.append_left P' HZ.out.1).trans h), HP4, HG4⟩
                case measure => simp [intOf]; omega
              · have hm4 : (N : Int) ≤ (an2 : Int) + (sn : Int) := by omega
                have hm5 : ¬ (an2 : Int) + (sn : Int) < (N : Int) := by omega
                have HQA : Hid (Q.Pairwise kle) := Lib.hid (HQ3.out.all (by have := HLQ.out; have := HI3.out; omega))
                clear hle3 hm3
                go_wp2_with fail
                go_roundw
                case rel => exact ⟨P' ++ Q, 2 * sn, by go_num, by omega, by omega, Lib.hid (by obtain ⟨j, hj⟩ := HI3.out.2.2.2; exact HC3.out.app hj HQA.out hQ2s.out), HPM3, HP3, HG3⟩
                case measure => simp [intOf]; omega
        · have hge : (N : Int) ≤ (sn : Int) := by omega
          have hge2 : ¬ (sn : Int) < (N : Int) := by omega
          have HSO : Hid (l.Pairwise kle) := Lib.hid (HC.out.all (by have := HLL.out; omega))
          clear hlt
          go_wp2_with fail
          go_end0
          exact ⟨rfl, l, HPM.out, HSO.out, HP.out, HG.out⟩
end Go.Proofs.YtcjamnfboifjeaaDoor

/-
  slices.SortStableFunc over pairs, whole.
-/
namespace Go.Proofs.YtcjamnfboifjeaaDoor
open Go.RowKit
set_option linter.unusedVariables false
set_option linter.unusedSimpArgs false
set_option maxRecDepth 100000

set_option maxHeartbeats 2000000 in
theorem sortStable (g c : Nat) (D : List PEnt) (rest : List Value) (w : World) (N : Nat) (hr : PRow w g D rest) (hD : ∀ x ∈ D, leafP x) (hN : N = D.length) (hd : N ≤ 100000) :
    Calls Tryd.prog 75 #[.slice (some ⟨g, 0, none⟩) N c, .func (Fn.func 76) #[] #[]] w fun e w' => e = .returned (.tuple #[]) ∧ ∃ Z, Z.Perm D ∧ Z.Pairwise kle ∧ PRow w' g Z rest ∧ Gr g w w' := by
  have HC := Lib.hid (stable g c D rest w N hr hD hN hd)
  clear hr hD hN
  go_enter Tryd.func75, Tryd.ntmps75
  go_wp2_with fail
  refine HC.out.mono ?_
  rintro e w1 ⟨rfl, Z, z1, z2, z3, z4⟩
  have HZ := Lib.hid (And.intro z1 (And.intro z2 (And.intro z3 z4)))
  clear z1 z2 z3 z4 HC
  go_wp2_with fail
  go_end0
  exact ⟨rfl, Z, HZ.out.1, HZ.out.2.1, HZ.out.2.2.1, HZ.out.2.2.2⟩
set_option maxHeartbeats 2000000 in
theorem insSort0 (A : Option Addr) (c : Nat) (fn : Value) (w : World) :
    Calls Tryd.prog 104 #[.slice A 0 c, .int .i64 0, .int .i64 0, fn] w fun e w' => e = .returned (.tuple #[]) ∧ w' = w := by
  go_enter Tryd.func104, Tryd.ntmps104
  go_wp2_with fail
  go_loopw [8] (fun i wr => i = .int .i64 1 ∧ wr = w) (fun _ _ => 0)
  case atStart => exact ⟨rfl, rfl⟩
  case round =>
    obtain ⟨rfl, rfl⟩ := hrel
    go_wp2_with fail
    go_end0
    exact ⟨rfl, rfl⟩
set_option maxHeartbeats 2000000 in
theorem stable0 (A : Option Addr) (c : Nat) (fn : Value) (w : World) :
    Calls Tryd.prog 92 #[.slice A 0 c, .int .i64 0, fn] w fun e w' => e = .returned (.tuple #[]) ∧ w' = w := by
  go_enter Tryd.func92, Tryd.ntmps92
  go_wp2_with fail
  go_loopw [7, 8] (fun a b wr => a = .int .i64 0 ∧ b = .int .i64 20 ∧ wr = w) (fun _ _ _ => 0)
  case atStart => exact ⟨rfl, rfl, rfl⟩
  case round =>
    obtain ⟨rfl, rfl, rfl⟩ := hrel
    go_wp2_with fail
    refine (insSort0 A c fn _).mono ?_
    rintro e w1 ⟨rfl, rfl⟩
    go_wp2_with fail
    go_loopw [6, 7, 8, 9] (fun s a b m wr => s = .int .i64 20 ∧ wr = w1) (fun _ _ _ _ _ => 0)
    case atStart => exact ⟨rfl, rfl⟩
    case round =>
      obtain ⟨rfl, rfl⟩ := hrel
      go_wp2_with fail
      go_end0
      exact ⟨rfl, rfl⟩
set_option maxHeartbeats 2000000 in
theorem sortStable0 (A : Option Addr) (c : Nat) (fn : Value) (w : World) :
    Calls Tryd.prog 75 #[.slice A 0 c, fn] w fun e w' => e = .returned (.tuple #[]) ∧ w' = w := by
  go_enter Tryd.func75, Tryd.ntmps75
  go_wp2_with fail
  refine (stable0 A c fn w).mono ?_
  rintro e w1 ⟨rfl, rfl⟩
  go_wp2_with fail
  go_end0
  exact ⟨rfl, rfl⟩
end Go.Proofs.YtcjamnfboifjeaaDoor
