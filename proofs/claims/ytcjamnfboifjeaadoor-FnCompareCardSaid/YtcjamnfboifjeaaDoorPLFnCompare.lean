/-
  FnCompare returns true for every code; it reads as it did; the listed tables lie as the card lists them.
-/
import Derived.Test.YtcjamnfboifjeaaDoorPLFnComparee
import Derived.Deep.RegionWith
import Derived.Test.YtcjamnfboifjeaaDoorShelfV
import Derived.PinnedBridge
import Derived.Lib.LaidU8T
import Derived.Deep.RegionHeld3
import Derived.Test.YtcjamnfboifjeaaDoorCards
import Derived.Test.YtcjamnfboifjeaaDoorTie
import Derived.Lay
import Derived.LaidOnce
import Derived.SevenTiedAt
/-
  The program's isValue and ValueOk, whole.
-/
namespace Go.Proofs.YtcjamnfboifjeaaDoor
open Go.RowKit
set_option linter.unusedVariables false
set_option maxRecDepth 100000
set_option linter.unusedSimpArgs false

theorem Keep.drewN {p : Nat} {a w : World} (h : Keep (fun _ k => k = p) a w) (n : Nat) : Keep (fun _ k => k = p) a (w.drewN n) := ⟨h.os, h.tape, h.output, h.size, h.block⟩
theorem keep_below {p : Nat} {a w w' : World} (h : Keep (fun _ k => k = p) a w) (hb : Below w.heap.size w w') : Keep (fun _ k => k = p) a w' :=
  ⟨hb.os.trans h.os, hb.tape.trans h.tape, hb.output.trans h.output, Nat.le_trans h.size hb.size, fun k hk hd => ⟨(hb.block k (Nat.lt_of_lt_of_le hk h.size)).trans (h.block k hk hd).1, hd⟩⟩
set_option maxHeartbeats 8000000 in
theorem implVal_step (v : V) (hk : ∀ i (h : i < v.kids.length), ImplValSaid v.kids[i]) : ImplValSaid v := by
  intro A cap L d p W w hw hL hd0 hd1 hT hat hb hp hB
  obtain ⟨hw1, hw2, hw3⟩ := V.weight_kids v
  have hnn : v.nodes ≤ 1048577 := by have := V.nodes_weight v; omega
  have hlt := hB.lt
  have hbs := hb.size
  have hl : v.kids.length ≤ 1048576 := by omega
  have c0 : ((((w.alloc (.cells #[.int .i64 v.k, .int .i64 v.n, .int .i64 v.e, .string v.s, .slice A v.kids.length cap] 28)).alloc (.cells #[.int .i64 d] 3)).alloc (.cells #[.pointer (some ⟨p, 0, none⟩)] 66))).cell? ⟨p, 0, none⟩ = some (.int .i64 L) := (((hB.alloc _).alloc _).alloc _).cell 0
  have f0 : ((((w.alloc (.cells #[.int .i64 v.k, .int .i64 v.n, .int .i64 v.e, .string v.s, .slice A v.kids.length cap] 28)).alloc (.cells #[.int .i64 d] 3)).alloc (.cells #[.pointer (some ⟨p, 0, none⟩)] 66))).frozen? ⟨p, 0, none⟩ = false := (((hB.alloc _).alloc _).alloc _).frozen 0
  have HB := Lib.hid hB
  have HW := Lib.hid hb
  have HT := Lib.hid hT
  have HA := Lib.hid hat
  have HC := Lib.hid hk
  have HF := Lib.hid (val_frame (w := w) (p := p) (tv := 28) (ti := 3) (tp := 66) (cs := #[.int .i64 v.k, .int .i64 v.n, .int .i64 v.e, .string v.s, .slice A v.kids.length cap]) (u' := .int .i64 ((L : Int) - 1)) (d := .int .i64 d) (q := .pointer (some ⟨p, 0, none⟩)) hB)
  clear hB hb hT hat hk
  unfold V.agg
  go_enter Tryd.func63, Tryd.ntmps63
  go_wp2_with fail
  obtain ⟨w3, hw3, Bv, Bd, Bl, Bp, K3⟩ := HF.out
  rw [← hw3]
  clear hw3 HF c0 f0
  have hbw3 : Below W.heap.size W w3 := K3.below HW.out hbs (fun k hk => by omega)
  have HW3 := Lib.hid hbw3
  have HK3 := Lib.hid K3
  have HBV := Lib.hid Bv
  have HBD := Lib.hid Bd
  have HBL := Lib.hid Bl
  have HBP := Lib.hid Bp
  have hs3 := K3.size
  have lv := Bv.lt
  have ld := Bd.lt
  have ll := Bl.lt
  have lp := Bp.lt
  obtain ⟨p0, p1, p2, p3, p4⟩ := Bv.five
  have q0 := Bd.cell 0
  have q1 := Bl.cell 0
  have q2 := Bp.cell 0
  clear K3 Bv Bd Bl Bp hbw3
  by_cases hL0 : L = 0
  · subst hL0
    have g1 : decide (((0 : Nat) : Int) - 1 < 0) = true := decide_eq_true (by omega)
    go_quiet (fail)
    go_wp2_with fail
    go_ret
    exact ⟨ret_bool (decide_eq_false inV_no1).symm, fun h => absurd h inV_no1, Keep.drewN HK3.out _⟩
  have g1 : decide ((L : Int) - 1 < 0) = false := decide_eq_false (by omega)
  by_cases hd : 12 < d
  · have g2 : decide (12 < d) = true := decide_eq_true hd
    go_quiet (fail)
    go_wp2_with fail
    go_ret
    exact ⟨ret_bool (decide_eq_false (inV_no2 hd)).symm, fun h => absurd h (inV_no2 hd), Keep.drewN HK3.out _⟩
  have g2 : decide (12 < d) = false := decide_eq_false hd
  by_cases hkl : (L : Int) - 1 < v.kids.length
  · have g3 : decide ((L : Int) - 1 < v.kids.length) = true := decide_eq_true hkl
    have HNO : Hid (¬ inV L d v) := Lib.hid (inV_no3 (by omega))
    go_quiet (fail)
    go_wp2_with fail
    go_ret
    exact ⟨ret_bool (decide_eq_false HNO.out).symm, fun h => absurd h HNO.out, Keep.drewN HK3.out _⟩
  have g3 : decide ((L : Int) - 1 < v.kids.length) = false := decide_eq_false hkl
  have keep0 : ∀ w' : World, Below w3.heap.size w3 w' → w'.cell? ⟨w.heap.size, 0, none⟩ = some (.int .i64 v.k) ∧ w'.cell? ⟨w.heap.size, 1, none⟩ = some (.int .i64 v.n) ∧ w'.cell? ⟨w.heap.size, 2, none⟩ = some (.int .i64 v.e) ∧ w'.cell? ⟨w.heap.size, 3, none⟩ = some (.string v.s) ∧ w'.cell? ⟨w.heap.size, 4, none⟩ = some (.slice A v.kids.length cap) ∧ w'.cell? ⟨w.heap.size + 1, 0, none⟩ = some (.int .i64 d) ∧ w'.cell? ⟨w.heap.size + 1 + 1, 0, none⟩ = some (.pointer (some ⟨p, 0, none⟩)) ∧ w'.cell? ⟨p, 0, none⟩ = some (.int .i64 ((L : Int) - 1)) ∧ Below w3.heap.size w3 w' := by
    intro w' hb
    obtain ⟨p0, p1, p2, p3, p4⟩ := (HBV.out.below hb lv).five
    exact ⟨p0, p1, p2, p3, p4, (HBD.out.below hb ld).cell 0, (HBL.out.below hb ll).cell 0, (HBP.out.below hb lp).cell 0, hb⟩
  have KE := Lib.hid keep0
  clear keep0
  have hb3 : Below w3.heap.size w3 w3 := Below.refl _ _
  have hL1 : 1 ≤ L := by omega
  by_cases hnode : nodeOk v
  · by_cases hkids : kidsI v
    · have HI := Lib.hid (inV_iff (L := L) (d := d) hL1 (by omega) hnode hkids)
      have HD1 := Lib.hid (decide_eq_true hnode)
      have HD2 := Lib.hid (decide_eq_true hkids)
      clear hnode hkids
      go_region_held3 (fun w' => w'.cell? ⟨w.heap.size, 0, none⟩ = some (.int .i64 v.k) ∧ w'.cell? ⟨w.heap.size, 1, none⟩ = some (.int .i64 v.n) ∧ w'.cell? ⟨w.heap.size, 2, none⟩ = some (.int .i64 v.e) ∧ w'.cell? ⟨w.heap.size, 3, none⟩ = some (.string v.s) ∧ w'.cell? ⟨w.heap.size, 4, none⟩ = some (.slice A v.kids.length cap) ∧ w'.cell? ⟨w.heap.size + 1, 0, none⟩ = some (.int .i64 d) ∧ w'.cell? ⟨w.heap.size + 1 + 1, 0, none⟩ = some (.pointer (some ⟨p, 0, none⟩)) ∧ w'.cell? ⟨p, 0, none⟩ = some (.int .i64 ((L : Int) - 1)) ∧ Below w3.heap.size w3 w') (first | exact KE.out _ hb6 | exact KE.out _ hb5 | exact KE.out _ hb3.drew | exact KE.out _ hb3)
        (first
        | (have hgate := hb5; clear hgate; go_at_call 87; refine (implKids v A cap w5 hnn (Vs.at_more (Nat.le_refl _) (Nat.le_trans (Nat.le_trans hbs hs3) hb5.size) _ _ (Vs.at_below HA.out (HW3.out.trans (hb5.mono (Nat.le_trans hbs hs3))) (Nat.le_refl _)))).mono ?_; rintro e w6 ⟨rfl, hb6'⟩; have hb6 := hb5.trans (hb6'.mono hb5.size); rw [HD2.out])
        | (go_at_call 86; refine (implNode v A cap w3.drew (by omega) (HT.out.below HW3.out.drew)).mono ?_; rintro e w5 ⟨rfl, hb5'⟩; have hb5 : Below w3.heap.size w3 w5 := hb3.drew.trans hb5'; rw [HD1.out]))
      obtain ⟨p0, p1, p2, p3, p4, q0, q1, q2, _⟩ := KE.out _ hb6
      have hb6W : Below W.heap.size W w6 := HW3.out.trans (hb6.mono (Nat.le_trans hbs hs3))
      have HB6 := Lib.hid hb6
      have HB6W := Lib.hid hb6W
      clear KE hb5 hb5' hb6' hb6 hb6W hb3
      go_wp2_with (go_at_call 88; go_in)
      refine (implKids_index v.kids HC.out A cap (L - 1) d p (w.heap.size + 1) (w.heap.size + 1 + 1) W w6 (by omega) (by omega) hd0 (by omega) HT.out HA.out HB6W.out hp (by have h := HBP.out.below HB6.out lp; rw [show (L : Int) - 1 = ((L - 1 : Nat) : Int) by omega] at h; exact h) (HBD.out.below HB6.out ld) (HBL.out.below HB6.out ll) (by omega) (by omega)).mono ?_
      rintro e w7 ⟨r, rfl, h1, h2⟩
      have HK7 := Lib.hid ((keep_below HK3.out HB6.out).trans h2)
      clear h2
      rcases h1 with ⟨hy, rfl, hblk⟩ | ⟨hn, h0⟩
      · have HY := Lib.hid (HI.out.2 hy)
        have HBK := Lib.hid hblk
        clear hy hblk
        go_wp2_with fail
        go_ret
        exact ⟨ret_bool (decide_eq_true HY.out).symm, fun _ => by
          have h := HBK.out
          rw [show L - 1 - Vs.nodes v.kids = L - v.nodes by rw [V.nodes_eq]; omega] at h
          exact h, HK7.out⟩
      · have HN := Lib.hid (fun h => hn (HI.out.1 h))
        clear hn
        go_wp2_with fail
        go_ret
        exact ⟨ret_bool (decide_eq_false HN.out).symm, fun h => absurd h HN.out, HK7.out⟩
    · have HN := Lib.hid (inV_no5 (L := L) (d := d) hkids)
      have HD1 := Lib.hid (decide_eq_true hnode)
      have HD2 := Lib.hid (decide_eq_false hkids)
      clear hnode hkids
      go_region_held3 (fun w' => w'.cell? ⟨w.heap.size, 0, none⟩ = some (.int .i64 v.k) ∧ w'.cell? ⟨w.heap.size, 1, none⟩ = some (.int .i64 v.n) ∧ w'.cell? ⟨w.heap.size, 2, none⟩ = some (.int .i64 v.e) ∧ w'.cell? ⟨w.heap.size, 3, none⟩ = some (.string v.s) ∧ w'.cell? ⟨w.heap.size, 4, none⟩ = some (.slice A v.kids.length cap) ∧ w'.cell? ⟨w.heap.size + 1, 0, none⟩ = some (.int .i64 d) ∧ w'.cell? ⟨w.heap.size + 1 + 1, 0, none⟩ = some (.pointer (some ⟨p, 0, none⟩)) ∧ w'.cell? ⟨p, 0, none⟩ = some (.int .i64 ((L : Int) - 1)) ∧ Below w3.heap.size w3 w') (first | exact KE.out _ hb6 | exact KE.out _ hb5 | exact KE.out _ hb3.drew | exact KE.out _ hb3)
        (first
        | (have hgate := hb5; clear hgate; go_at_call 87; refine (implKids v A cap w5 hnn (Vs.at_more (Nat.le_refl _) (Nat.le_trans (Nat.le_trans hbs hs3) hb5.size) _ _ (Vs.at_below HA.out (HW3.out.trans (hb5.mono (Nat.le_trans hbs hs3))) (Nat.le_refl _)))).mono ?_; rintro e w6 ⟨rfl, hb6'⟩; have hb6 := hb5.trans (hb6'.mono hb5.size); rw [HD2.out])
        | (go_at_call 86; refine (implNode v A cap w3.drew (by omega) (HT.out.below HW3.out.drew)).mono ?_; rintro e w5 ⟨rfl, hb5'⟩; have hb5 : Below w3.heap.size w3 w5 := hb3.drew.trans hb5'; rw [HD1.out]))
      have HB6 := Lib.hid hb6
      clear KE hb5 hb5' hb6' hb6 hb3
      go_wp2_with fail
      go_ret
      exact ⟨ret_bool (decide_eq_false HN.out).symm, fun h => absurd h HN.out, keep_below HK3.out HB6.out⟩
  · have HN := Lib.hid (inV_no4 (L := L) (d := d) hnode)
    have HD1 := Lib.hid (decide_eq_false hnode)
    clear hnode
    go_region_with (go_at_call 86; refine (implNode v A cap w3.drew (by omega) (HT.out.below HW3.out.drew)).mono ?_; rintro e w5 ⟨rfl, hb5'⟩; have hb5 : Below w3.heap.size w3 w5 := hb3.drew.trans hb5'; rw [HD1.out])
    all_goals
      have HB6 := Lib.hid hb5
      clear KE hb5 hb5' hb3
      go_wp2_with fail
      go_ret
      exact ⟨ret_bool (decide_eq_false HN.out).symm, fun h => absurd h HN.out, keep_below HK3.out HB6.out⟩
theorem implVal : ∀ v, ImplValSaid v := V.all implVal_step

set_option maxHeartbeats 1000000 in
theorem implValueOk (v : V) (A : Option Addr) (cap : Nat) (w : World) (hw : v.weight ≤ 1048576) (hT : Tabs w) (hat : Vs.at_ w 0 w.heap.size v.kids A) :
    Calls Tryd.prog 21 #[v.agg A cap] w fun e w' => e = .returned (.bool (decide (okV v))) ∧ Below w.heap.size w w' := by
  have HC := Lib.hid (fun (p : Nat) (w' : World) h1 (h2 : w.heap.size ≤ p) (h3 : Blk w' p 3 #[.int .i64 ((300 : Nat) : Int)]) => implVal v A cap 300 0 p w w' hw (Nat.le_refl _) (Int.le_refl _) (by omega) hT hat h1 h2 h3)
  have HI := Lib.hid (inV_okV v)
  clear hT hat
  unfold V.agg at HC
  unfold V.agg
  go_enter Tryd.func21, Tryd.ntmps21
  go_wp2_with fail
  have hb : Below w.heap.size w ((w.alloc (.cells #[.int .i64 v.k, .int .i64 v.n, .int .i64 v.e, .string v.s, .slice A v.kids.length cap] 28)).alloc (.cells #[.int .i64 300] 3)) := ((Below.refl _ w).alloc (Nat.le_refl _) _).alloc (by simp) _
  have hB := Blk.new (w.alloc (.cells #[.int .i64 v.k, .int .i64 v.n, .int .i64 v.e, .string v.s, .slice A v.kids.length cap] 28)) 3 #[.int .i64 300]
  refine (HC.out (w.heap.size + 1) _ hb (by omega) (by simpa using hB)).mono ?_
  rintro e w1 ⟨rfl, _, hk⟩
  have hb1 := hk.below hb (by simp; omega) (fun k hk => by omega)
  go_wp2_with fail
  go_ret
  exact ⟨ret_bool (decide_eq_decide.2 HI.out), hb1⟩
end Go.Proofs.YtcjamnfboifjeaaDoor

/-
  The library's listed tables, as a row lists them, lie as the contracts ask (by the names that utf8.ValidString reads).
-/
namespace Go.Proofs.YtcjamnfboifjeaaDoor
open Go.RowKit Go.Shelf Go.Lib

theorem accD : (Rows.laid_unicode_utf8_acceptRanges : DataW Unit) = Lib.acceptData := by kernel_rfl
theorem fstD : Rows.laid_unicode_utf8_first = Lib.firstData := Pinned.utf8First_eq
theorem extraU8 : U8Extra Tryd.prog Tryd.laysV196_ren := ⟨by kernel_rfl, by kernel_rfl, by kernel_rfl, by kernel_rfl, by kernel_rfl, by kernel_rfl, by kernel_rfl⟩
theorem tabs_of_laid {l : List (String × DataW Unit)} {W : World} (h : laidMet Tryd.prog l W) (ha : ("unicode/utf8.acceptRanges", Rows.laid_unicode_utf8_acceptRanges) ∈ l) (hf : ("unicode/utf8.first", Rows.laid_unicode_utf8_first) ∈ l) : Tabs W :=
  utf8Tabs_of_readsT (.of196 Tryd.laysV196) extraU8 (fstD ▸ Lib.laidMet.reads h hf) (accD ▸ Lib.laidMet.reads h ha)
end Go.Proofs.YtcjamnfboifjeaaDoor

/-
  FnCompare returns true for every code; it reads as it did; the listed tables lie as the card lists them.
-/
namespace Go.Proofs.YtcjamnfboifjeaaDoor.fnCompare
open Go.ChangeShapes Go.WideShapes Go.ChangeAt Go.RowKit
open Go.ChangeMaps (open_string shut_string)
set_option linter.unusedVariables false
set_option linter.unusedSimpArgs false
set_option maxRecDepth 100000

theorem orN_range (f : Nat → Int) (h : ∀ i, -1 ≤ f i ∧ f i ≤ 1) : ∀ n, -1 ≤ orN f n ∧ orN f n ≤ 1
  | 0 => by unfold orN; omega
  | n + 1 => by
    have := orN_range f h n
    have := h n
    unfold orN
    split <;> omega
theorem ord_range (a b : V) : -1 ≤ V.ord a b ∧ V.ord a b ≤ 1 := by
  refine orN_range _ (fun i => ?_) 5
  unfold ordAt
  split
  · exact lessI_range _ _
  · exact lessI_range _ _
  · exact lessI_range _ _
  · exact lessT_range _ _
  · exact lessI_range _ _
theorem cmps_range : ∀ (l m : List V), (∀ i (h : i < l.length), ∀ b, -1 ≤ V.cmp l[i] b ∧ V.cmp l[i] b ≤ 1) → -1 ≤ Vs.cmp l m ∧ Vs.cmp l m ≤ 1
  | [], m, _ => by simp only [Vs.cmp]; omega
  | a :: l, [], _ => by rw [Vs.cmp_nil]; omega
  | a :: l, b :: m, h => by
    have h0 := h 0 (by simp) b
    rw [List.getElem_cons_zero] at h0
    have ih := cmps_range l m (fun i hi b => by have := h (i + 1) (by simpa using hi) b; simpa using this)
    rw [Vs.cmp_cons]
    split <;> omega
theorem cmp_range (a : V) : ∀ b, -1 ≤ V.cmp a b ∧ V.cmp a b ≤ 1 := by
  refine V.all (P := fun a => ∀ b, -1 ≤ V.cmp a b ∧ V.cmp a b ≤ 1) (fun a hk b => ?_) a
  rw [V.cmp_eq]
  split
  · exact cmps_range _ _ hk
  · exact ord_range a b

theorem st5_at' {w : World} {p lo hi : Nat} {l : List V} {A : Option Addr} (h : Vs.at_ w lo hi l A) (hp : hi ≤ p) (a b c d e : Value) : Vs.at_ (st5 w p a b c d e) lo hi l A := by
  unfold st5
  exact Vs.at_set (Vs.at_set (Vs.at_set (Vs.at_set (Vs.at_set h (.inr hp)) (.inr hp)) (.inr hp)) (.inr hp)) (.inr hp)

set_option maxHeartbeats 3000000 in
theorem walk1 (code : List UInt8) (A : Option Addr) (cap : Nat) (hn : code.length ≤ 1048576) (w : World) (hat : At1 w w.heap.size A (code.map bv)) (hT : Tabs w) :
    Calls Tryd.prog 4 #[.slice A code.length cap] w fun e w' => e = .returned (.bool true) ∧ Below w.heap.size w w' := by
  have HA := Lib.hid hat
  have HT := Lib.hid hT
  have at_ : Hid (∀ W, Below w.heap.size w W → At1 W W.heap.size A (code.map bv)) := Lib.hid (fun W hb => (HA.out.below hb (Nat.le_refl _)).more hb.size)
  clear hat hT
  go_enter Tryd.func4, Tryd.ntmps4
  go_wp2_with fail
  refine (lawBig A code.length cap w hn).mono ?_
  rintro e w0 ⟨rfl, hw0⟩
  subst hw0
  have C0 := Lib.hid (Ctx.start w0)
  go_wp2_with fail
  refine (drawCompare A cap code w0 (at_.out _ C0.out.1) (by omega)).mono ?_
  rintro e w1 ⟨a, b, Aa, Ab, ca, cb, rfl, ⟨fa, wa, la, ata⟩, ⟨fb, wb, lb, atb⟩, hb⟩
  have C1 := Lib.hid (((C0.out.below hb).kid (Vs.at_more (Nat.zero_le _) (Nat.le_refl _) _ _ ata)).kid (Vs.at_more (Nat.zero_le _) (Nat.le_refl _) _ _ atb))
  have ka : a.kids.length ≤ 1400 := by have := Vs.len_le a.kids; rw [V.weight_eq] at wa; omega
  have na : a.nodes ≤ 1048577 := by have := V.nodes_weight a; omega
  have kb : b.kids.length ≤ 1400 := by have := Vs.len_le b.kids; rw [V.weight_eq] at wb; omega
  have nb : b.nodes ≤ 1048577 := by have := V.nodes_weight b; omega
  clear hb ata atb C0
  unfold V.agg
  go_wp2_with fail
  obtain ⟨w2, hw2⟩ : ∃ w2, w2 = (w1.alloc (.cells #[.int .i64 a.k, .int .i64 a.n, .int .i64 a.e, .string a.s, .slice Aa a.kids.length ca] 28)).alloc (.cells #[.int .i64 b.k, .int .i64 b.n, .int .i64 b.e, .string b.s, .slice Ab b.kids.length cb] 28) := ⟨_, rfl⟩
  have hz2 : (w1.alloc (.cells #[.int .i64 a.k, .int .i64 a.n, .int .i64 a.e, .string a.s, .slice Aa a.kids.length ca] 28)).heap.size = w1.heap.size + 1 := by simp
  have C2 := Lib.hid ((C1.out.new #[.int .i64 a.k, .int .i64 a.n, .int .i64 a.e, .string a.s, .slice Aa a.kids.length ca]).new #[.int .i64 b.k, .int .i64 b.n, .int .i64 b.e, .string b.s, .slice Ab b.kids.length cb])
  rw [hz2, ← hw2] at C2
  rw [← hw2]
  clear hz2 hw2 C1
  refine (drawSame A cap code w2 (at_.out _ C2.out.1) (by omega)).mono ?_
  rintro e w3 ⟨c, d, Ac, Ad, cc, cd, rfl, ⟨fc, wc, lc, atc⟩, ⟨fd, wd, ld, atd⟩, hb⟩
  have C3 := Lib.hid (((C2.out.below hb).kid (Vs.at_more (Nat.zero_le _) (Nat.le_refl _) _ _ atc)).kid (Vs.at_more (Nat.zero_le _) (Nat.le_refl _) _ _ atd))
  have kc : c.kids.length ≤ 1400 := by have := Vs.len_le c.kids; rw [V.weight_eq] at wc; omega
  have nc : c.nodes ≤ 1048577 := by have := V.nodes_weight c; omega
  have kd : d.kids.length ≤ 1400 := by have := Vs.len_le d.kids; rw [V.weight_eq] at wd; omega
  have nd : d.nodes ≤ 1048577 := by have := V.nodes_weight d; omega
  clear hb atc atd C2
  unfold V.agg
  go_wp2_with fail
  obtain ⟨w4, hw4⟩ : ∃ w4, w4 = (w3.alloc (.cells #[.int .i64 c.k, .int .i64 c.n, .int .i64 c.e, .string c.s, .slice Ac c.kids.length cc] 28)).alloc (.cells #[.int .i64 d.k, .int .i64 d.n, .int .i64 d.e, .string d.s, .slice Ad d.kids.length cd] 28) := ⟨_, rfl⟩
  have hz4 : (w3.alloc (.cells #[.int .i64 c.k, .int .i64 c.n, .int .i64 c.e, .string c.s, .slice Ac c.kids.length cc] 28)).heap.size = w3.heap.size + 1 := by simp
  have C4 := Lib.hid ((C3.out.new #[.int .i64 c.k, .int .i64 c.n, .int .i64 c.e, .string c.s, .slice Ac c.kids.length cc]).new #[.int .i64 d.k, .int .i64 d.n, .int .i64 d.e, .string d.s, .slice Ad d.kids.length cd])
  rw [hz4, ← hw4] at C4
  rw [← hw4]
  clear hz4 hw4 C3
  refine (drawValueOk A cap code w4 (at_.out _ C4.out.1) (by omega)).mono ?_
  rintro e w5 ⟨o, Ao, co, rfl, fo, wo, lo, ato, hb⟩
  have C5 := Lib.hid ((C4.out.below hb).kid ato)
  have ko : o.kids.length ≤ 1400 := by have := Vs.len_le o.kids; rw [V.weight_eq] at wo; omega
  clear hb ato C4
  have HCI := Lib.hid (fun W h1 h2 => implCmp a b Aa Ab ca cb W na nb h1 h2)
  have HCS := Lib.hid (fun W h1 h2 => specCmp a b Aa Ab ca cb W na nb h1 h2)
  have HCB := Lib.hid (fun W h1 h2 => implCmp b a Ab Aa cb ca W nb na h1 h2)
  have HCA := Lib.hid (fun W h1 h2 => implCmp a a Aa Aa ca ca W na na h1 h2)
  have HSI := Lib.hid (fun W h1 h2 => implSame c d Ac Ad cc cd W nc nd h1 h2)
  have HSS := Lib.hid (fun W h1 h2 => specSame c d Ac Ad cc cd W nc nd h1 h2)
  have HOI := Lib.hid (fun W hT h1 => implValueOk o Ao co W (by omega) hT h1)
  have HOS := Lib.hid (fun W h1 => specValueOk o Ao co W (by omega) h1)
  have HLA := Lib.hid (fun W h1 h2 => lawSame a b Aa Ab ca cb W na nb h1 h2)
  have HLC := Lib.hid (fun W h1 h2 => lawSame c d Ac Ad cc cd W nc nd h1 h2)
  have HBC := Lib.hid (fun W h1 h2 => implCmp b c Ab Ac cb cc W nb nc h1 h2)
  have HAC := Lib.hid (fun W h1 h2 => implCmp a c Aa Ac ca cc W na nc h1 h2)
  have HRG := Lib.hid (cmp_range a b)
  have HZS : Hid (V.same a b = decide (V.cmp a b = 0)) := Lib.hid rfl
  have HT1 := Lib.hid (V.cmp_tri a b c)
  have HT2 := Lib.hid (V.cmp_tri b a c)
  rw [V.cmp_swap a b] at HCB HT2
  rw [V.cmp_self a] at HCA
  obtain ⟨z, hz⟩ : ∃ z, V.cmp a b = z := ⟨_, rfl⟩
  obtain ⟨zb, hzb⟩ : ∃ z, V.cmp b c = z := ⟨_, rfl⟩
  obtain ⟨za, hza⟩ : ∃ z, V.cmp a c = z := ⟨_, rfl⟩
  obtain ⟨sb, hsb⟩ : ∃ s, V.same c d = s := ⟨_, rfl⟩
  obtain ⟨ob, hob⟩ : ∃ s, decide (okV o) = s := ⟨_, rfl⟩
  rw [hz] at HCI HCS HCB HRG HZS HT1 HT2
  rw [hzb] at HBC HT1 HT2
  rw [hza] at HAC HT1 HT2
  rw [hsb] at HSI HSS HLC
  rw [hob] at HOI HOS
  rw [HZS.out] at HLA
  have z1 : -1 ≤ z := HRG.out.1
  have z2 : z ≤ 1 := HRG.out.2
  have hn1 : (z != z) = false := by simp
  have hw1 : IntKind.i64.wrap z = z := by rw [IntKind.wrap_i64]; omega
  have hw2 : IntKind.i64.wrap (- -z) = z := by rw [Int.neg_neg]; exact hw1
  have hw3 : wrap64 z = z := by rw [wrap64_eq]; omega
  have hw4 : wrap64 (- -z) = z := by rw [Int.neg_neg]; exact hw3
  have hn2 : (sb != sb) = false := by simp
  have hn3 : (ob != ob) = false := by simp
  clear hz hzb hza hsb hob HZS HRG fa fb fc fd fo na nb nc nd la lb lc ld lo
  unfold V.agg at HCI HCS HCB HCA HSI HSS HOI HOS HLA HLC HBC HAC ⊢
  go_upto_region 6 with fail
  obtain ⟨w6, hw6⟩ : ∃ w6, w6 = w5.alloc (.cells #[.int .i64 o.k, .int .i64 o.n, .int .i64 o.e, .string o.s, .slice Ao o.kids.length co] 28) := ⟨_, rfl⟩
  have C6 := Lib.hid (C5.out.new #[.int .i64 o.k, .int .i64 o.n, .int .i64 o.e, .string o.s, .slice Ao o.kids.length co])
  rw [← hw6] at C6
  try rw [← hw6]
  clear hw6 C5
  obtain ⟨ta0, ta1, ta2, ta3, ta4⟩ := C6.out.five (p := w1.heap.size) (show (w1.heap.size, #[.int .i64 a.k, .int .i64 a.n, .int .i64 a.e, .string a.s, .slice Aa a.kids.length ca]) ∈ _ by simp)
  obtain ⟨tb0, tb1, tb2, tb3, tb4⟩ := C6.out.five (p := w1.heap.size + 1) (show (w1.heap.size + 1, #[.int .i64 b.k, .int .i64 b.n, .int .i64 b.e, .string b.s, .slice Ab b.kids.length cb]) ∈ _ by simp)
  go_wp2_with fail
  refine (HCI.out _ (C6.out.at_ (by simp)) (C6.out.at_ (by simp))).mono ?_
  rintro e w7 ⟨rfl, hb⟩
  have C7 := Lib.hid (C6.out.below hb)
  clear hb C6
  clear ta0 ta1 ta2 ta3 ta4 tb0 tb1 tb2 tb3 tb4
  obtain ⟨ta0, ta1, ta2, ta3, ta4⟩ := C7.out.five (p := w1.heap.size) (show (w1.heap.size, #[.int .i64 a.k, .int .i64 a.n, .int .i64 a.e, .string a.s, .slice Aa a.kids.length ca]) ∈ _ by simp)
  obtain ⟨tb0, tb1, tb2, tb3, tb4⟩ := C7.out.five (p := w1.heap.size + 1) (show (w1.heap.size + 1, #[.int .i64 b.k, .int .i64 b.n, .int .i64 b.e, .string b.s, .slice Ab b.kids.length cb]) ∈ _ by simp)
  obtain ⟨tc0, tc1, tc2, tc3, tc4⟩ := C7.out.five (p := w3.heap.size) (show (w3.heap.size, #[.int .i64 c.k, .int .i64 c.n, .int .i64 c.e, .string c.s, .slice Ac c.kids.length cc]) ∈ _ by simp)
  obtain ⟨td0, td1, td2, td3, td4⟩ := C7.out.five (p := w3.heap.size + 1) (show (w3.heap.size + 1, #[.int .i64 d.k, .int .i64 d.n, .int .i64 d.e, .string d.s, .slice Ad d.kids.length cd]) ∈ _ by simp)
  obtain ⟨to0, to1, to2, to3, to4⟩ := C7.out.five (p := w5.heap.size) (show (w5.heap.size, #[.int .i64 o.k, .int .i64 o.n, .int .i64 o.e, .string o.s, .slice Ao o.kids.length co]) ∈ _ by simp)
  go_upto_region 7 with fail
  have hbr : Below w7.heap.size w7 w7 := Below.refl _ _
  have KC := Lib.hid (fun W (h : Below w7.heap.size w7 W) => C7.out.below h)
  have KE : Hid (∀ W, Below w7.heap.size w7 W → (fun w' => w'.cell? ⟨w1.heap.size, 0, none⟩ = some (.int .i64 a.k) ∧ w'.cell? ⟨w1.heap.size, 1, none⟩ = some (.int .i64 a.n) ∧ w'.cell? ⟨w1.heap.size, 2, none⟩ = some (.int .i64 a.e) ∧ w'.cell? ⟨w1.heap.size, 3, none⟩ = some (.string a.s) ∧ w'.cell? ⟨w1.heap.size, 4, none⟩ = some (.slice Aa a.kids.length ca) ∧ w'.cell? ⟨w1.heap.size + 1, 0, none⟩ = some (.int .i64 b.k) ∧ w'.cell? ⟨w1.heap.size + 1, 1, none⟩ = some (.int .i64 b.n) ∧ w'.cell? ⟨w1.heap.size + 1, 2, none⟩ = some (.int .i64 b.e) ∧ w'.cell? ⟨w1.heap.size + 1, 3, none⟩ = some (.string b.s) ∧ w'.cell? ⟨w1.heap.size + 1, 4, none⟩ = some (.slice Ab b.kids.length cb) ∧ w'.cell? ⟨w3.heap.size, 0, none⟩ = some (.int .i64 c.k) ∧ w'.cell? ⟨w3.heap.size, 1, none⟩ = some (.int .i64 c.n) ∧ w'.cell? ⟨w3.heap.size, 2, none⟩ = some (.int .i64 c.e) ∧ w'.cell? ⟨w3.heap.size, 3, none⟩ = some (.string c.s) ∧ w'.cell? ⟨w3.heap.size, 4, none⟩ = some (.slice Ac c.kids.length cc) ∧ w'.cell? ⟨w3.heap.size + 1, 0, none⟩ = some (.int .i64 d.k) ∧ w'.cell? ⟨w3.heap.size + 1, 1, none⟩ = some (.int .i64 d.n) ∧ w'.cell? ⟨w3.heap.size + 1, 2, none⟩ = some (.int .i64 d.e) ∧ w'.cell? ⟨w3.heap.size + 1, 3, none⟩ = some (.string d.s) ∧ w'.cell? ⟨w3.heap.size + 1, 4, none⟩ = some (.slice Ad d.kids.length cd) ∧ w'.cell? ⟨w5.heap.size, 0, none⟩ = some (.int .i64 o.k) ∧ w'.cell? ⟨w5.heap.size, 1, none⟩ = some (.int .i64 o.n) ∧ w'.cell? ⟨w5.heap.size, 2, none⟩ = some (.int .i64 o.e) ∧ w'.cell? ⟨w5.heap.size, 3, none⟩ = some (.string o.s) ∧ w'.cell? ⟨w5.heap.size, 4, none⟩ = some (.slice Ao o.kids.length co)) W) := Lib.hid (fun W h => by have C := C7; have Xa := (C.out.below h).five (p := w1.heap.size) (show (w1.heap.size, #[.int .i64 a.k, .int .i64 a.n, .int .i64 a.e, .string a.s, .slice Aa a.kids.length ca]) ∈ _ by simp); have Xb := (C.out.below h).five (p := w1.heap.size + 1) (show (w1.heap.size + 1, #[.int .i64 b.k, .int .i64 b.n, .int .i64 b.e, .string b.s, .slice Ab b.kids.length cb]) ∈ _ by simp); have Xc := (C.out.below h).five (p := w3.heap.size) (show (w3.heap.size, #[.int .i64 c.k, .int .i64 c.n, .int .i64 c.e, .string c.s, .slice Ac c.kids.length cc]) ∈ _ by simp); have Xd := (C.out.below h).five (p := w3.heap.size + 1) (show (w3.heap.size + 1, #[.int .i64 d.k, .int .i64 d.n, .int .i64 d.e, .string d.s, .slice Ad d.kids.length cd]) ∈ _ by simp); have Xo := (C.out.below h).five (p := w5.heap.size) (show (w5.heap.size, #[.int .i64 o.k, .int .i64 o.n, .int .i64 o.e, .string o.s, .slice Ao o.kids.length co]) ∈ _ by simp); exact ⟨Xa.1, Xa.2.1, Xa.2.2.1, Xa.2.2.2.1, Xa.2.2.2.2, Xb.1, Xb.2.1, Xb.2.2.1, Xb.2.2.2.1, Xb.2.2.2.2, Xc.1, Xc.2.1, Xc.2.2.1, Xc.2.2.2.1, Xc.2.2.2.2, Xd.1, Xd.2.1, Xd.2.2.1, Xd.2.2.2.1, Xd.2.2.2.2, Xo.1, Xo.2.1, Xo.2.2.1, Xo.2.2.2.1, Xo.2.2.2.2⟩)
  go_region_held3 (fun w' => w'.cell? ⟨w1.heap.size, 0, none⟩ = some (.int .i64 a.k) ∧ w'.cell? ⟨w1.heap.size, 1, none⟩ = some (.int .i64 a.n) ∧ w'.cell? ⟨w1.heap.size, 2, none⟩ = some (.int .i64 a.e) ∧ w'.cell? ⟨w1.heap.size, 3, none⟩ = some (.string a.s) ∧ w'.cell? ⟨w1.heap.size, 4, none⟩ = some (.slice Aa a.kids.length ca) ∧ w'.cell? ⟨w1.heap.size + 1, 0, none⟩ = some (.int .i64 b.k) ∧ w'.cell? ⟨w1.heap.size + 1, 1, none⟩ = some (.int .i64 b.n) ∧ w'.cell? ⟨w1.heap.size + 1, 2, none⟩ = some (.int .i64 b.e) ∧ w'.cell? ⟨w1.heap.size + 1, 3, none⟩ = some (.string b.s) ∧ w'.cell? ⟨w1.heap.size + 1, 4, none⟩ = some (.slice Ab b.kids.length cb) ∧ w'.cell? ⟨w3.heap.size, 0, none⟩ = some (.int .i64 c.k) ∧ w'.cell? ⟨w3.heap.size, 1, none⟩ = some (.int .i64 c.n) ∧ w'.cell? ⟨w3.heap.size, 2, none⟩ = some (.int .i64 c.e) ∧ w'.cell? ⟨w3.heap.size, 3, none⟩ = some (.string c.s) ∧ w'.cell? ⟨w3.heap.size, 4, none⟩ = some (.slice Ac c.kids.length cc) ∧ w'.cell? ⟨w3.heap.size + 1, 0, none⟩ = some (.int .i64 d.k) ∧ w'.cell? ⟨w3.heap.size + 1, 1, none⟩ = some (.int .i64 d.n) ∧ w'.cell? ⟨w3.heap.size + 1, 2, none⟩ = some (.int .i64 d.e) ∧ w'.cell? ⟨w3.heap.size + 1, 3, none⟩ = some (.string d.s) ∧ w'.cell? ⟨w3.heap.size + 1, 4, none⟩ = some (.slice Ad d.kids.length cd) ∧ w'.cell? ⟨w5.heap.size, 0, none⟩ = some (.int .i64 o.k) ∧ w'.cell? ⟨w5.heap.size, 1, none⟩ = some (.int .i64 o.n) ∧ w'.cell? ⟨w5.heap.size, 2, none⟩ = some (.int .i64 o.e) ∧ w'.cell? ⟨w5.heap.size, 3, none⟩ = some (.string o.s) ∧ w'.cell? ⟨w5.heap.size, 4, none⟩ = some (.slice Ao o.kids.length co))
    (first | exact KE.out _ h7 | exact KE.out _ h6 | exact KE.out _ h5 | exact KE.out _ h4 | exact KE.out _ h3 | exact KE.out _ h2 | exact KE.out _ h1 | exact KE.out _ hbr.drew | exact KE.out _ hbr)
    (first
    | (go_at_call 18; refine (HCS.out _ ((KC.out _ hbr.drew).at_ (by simp)) ((KC.out _ hbr.drew).at_ (by simp))).mono ?_; rintro e v1 ⟨rfl, hb⟩; have h1 : Below w7.heap.size w7 v1 := hbr.drew.trans hb; clear hb)
    | (have hgate := h1; clear hgate; go_at_call 19; refine (HSI.out _ ((KC.out _ h1).at_ (by simp)) ((KC.out _ h1).at_ (by simp))).mono ?_; rintro e v2 ⟨rfl, hb⟩; have h2 := h1.trans (hb.mono h1.size); clear hb)
    | (have hgate := h2; clear hgate; go_at_call 20; refine (HSS.out _ ((KC.out _ h2).at_ (by simp)) ((KC.out _ h2).at_ (by simp))).mono ?_; rintro e v3 ⟨rfl, hb⟩; have h3 := h2.trans (hb.mono h2.size); clear hb)
    | (have hgate := h3; clear hgate; go_at_call 21; refine (HOI.out _ (HT.out.below (KC.out _ h3).1) ((KC.out _ h3).at_ (by simp))).mono ?_; rintro e v4 ⟨rfl, hb⟩; have h4 := h3.trans (hb.mono h3.size); clear hb)
    | (have hgate := h4; clear hgate; go_at_call 22; refine (HOS.out _ ((KC.out _ h4).at_ (by simp))).mono ?_; rintro e v5 ⟨rfl, hb⟩; have h5 := h4.trans (hb.mono h4.size); clear hb)
    | (have hgate := h5; clear hgate; go_at_call_of 17 (Value.int .i64 b.k); refine (HCB.out _ ((KC.out _ h5).at_ (by simp)) ((KC.out _ h5).at_ (by simp))).mono ?_; rintro e v6 ⟨rfl, hb⟩; have h6 := h5.trans (hb.mono h5.size); clear hb)
    | (have hgate := h6; clear hgate; go_at_call 17; refine (HCA.out _ ((KC.out _ h6).at_ (by simp)) ((KC.out _ h6).at_ (by simp))).mono ?_; rintro e v7 ⟨rfl, hb⟩; have h7 := h6.trans (hb.mono h6.size); clear hb))
  clear KE
  have C8 := Lib.hid (KC.out _ h7)
  clear h1 h2 h3 h4 h5 h6 h7 hbr KC C7
  clear ta0 ta1 ta2 ta3 ta4 tb0 tb1 tb2 tb3 tb4 tc0 tc1 tc2 tc3 tc4 td0 td1 td2 td3 td4 to0 to1 to2 to3 to4
  go_upto_region 9 with fail
  go_cut [78] from 64 (fun y wx => y = .bool false ∧ Hid (Ctx w0 [(w5.heap.size, #[.int .i64 o.k, .int .i64 o.n, .int .i64 o.e, .string o.s, .slice Ao o.kids.length co]), (w3.heap.size + 1, #[.int .i64 d.k, .int .i64 d.n, .int .i64 d.e, .string d.s, .slice Ad d.kids.length cd]), (w3.heap.size, #[.int .i64 c.k, .int .i64 c.n, .int .i64 c.e, .string c.s, .slice Ac c.kids.length cc]), (w1.heap.size + 1, #[.int .i64 b.k, .int .i64 b.n, .int .i64 b.e, .string b.s, .slice Ab b.kids.length cb]), (w1.heap.size, #[.int .i64 a.k, .int .i64 a.n, .int .i64 a.e, .string a.s, .slice Aa a.kids.length ca])] [(o, Ao), (d, Ad), (c, Ac), (b, Ab), (a, Aa)] wx))
  case first =>
    obtain ⟨ta0, ta1, ta2, ta3, ta4⟩ := C8.out.five (p := w1.heap.size) (show (w1.heap.size, #[.int .i64 a.k, .int .i64 a.n, .int .i64 a.e, .string a.s, .slice Aa a.kids.length ca]) ∈ _ by simp)
    obtain ⟨tb0, tb1, tb2, tb3, tb4⟩ := C8.out.five (p := w1.heap.size + 1) (show (w1.heap.size + 1, #[.int .i64 b.k, .int .i64 b.n, .int .i64 b.e, .string b.s, .slice Ab b.kids.length cb]) ∈ _ by simp)
    obtain ⟨tc0, tc1, tc2, tc3, tc4⟩ := C8.out.five (p := w3.heap.size) (show (w3.heap.size, #[.int .i64 c.k, .int .i64 c.n, .int .i64 c.e, .string c.s, .slice Ac c.kids.length cc]) ∈ _ by simp)
    obtain ⟨td0, td1, td2, td3, td4⟩ := C8.out.five (p := w3.heap.size + 1) (show (w3.heap.size + 1, #[.int .i64 d.k, .int .i64 d.n, .int .i64 d.e, .string d.s, .slice Ad d.kids.length cd]) ∈ _ by simp)
    by_cases hz0 : z = 0
    · have q0 : (z == 0) = true := by rw [hz0]; rfl
      rw [show decide (z = 0) = true from decide_eq_true hz0] at HLA
      clear hz0
      have hbr : Below v7.heap.size v7 v7 := Below.refl _ _
      have KC := Lib.hid (fun W (h : Below v7.heap.size v7 W) => C8.out.below h)
      have KE : Hid (∀ W, Below v7.heap.size v7 W → (fun w' => w'.cell? ⟨w1.heap.size, 0, none⟩ = some (.int .i64 a.k) ∧ w'.cell? ⟨w1.heap.size, 1, none⟩ = some (.int .i64 a.n) ∧ w'.cell? ⟨w1.heap.size, 2, none⟩ = some (.int .i64 a.e) ∧ w'.cell? ⟨w1.heap.size, 3, none⟩ = some (.string a.s) ∧ w'.cell? ⟨w1.heap.size, 4, none⟩ = some (.slice Aa a.kids.length ca) ∧ w'.cell? ⟨w1.heap.size + 1, 0, none⟩ = some (.int .i64 b.k) ∧ w'.cell? ⟨w1.heap.size + 1, 1, none⟩ = some (.int .i64 b.n) ∧ w'.cell? ⟨w1.heap.size + 1, 2, none⟩ = some (.int .i64 b.e) ∧ w'.cell? ⟨w1.heap.size + 1, 3, none⟩ = some (.string b.s) ∧ w'.cell? ⟨w1.heap.size + 1, 4, none⟩ = some (.slice Ab b.kids.length cb) ∧ w'.cell? ⟨w3.heap.size, 0, none⟩ = some (.int .i64 c.k) ∧ w'.cell? ⟨w3.heap.size, 1, none⟩ = some (.int .i64 c.n) ∧ w'.cell? ⟨w3.heap.size, 2, none⟩ = some (.int .i64 c.e) ∧ w'.cell? ⟨w3.heap.size, 3, none⟩ = some (.string c.s) ∧ w'.cell? ⟨w3.heap.size, 4, none⟩ = some (.slice Ac c.kids.length cc) ∧ w'.cell? ⟨w3.heap.size + 1, 0, none⟩ = some (.int .i64 d.k) ∧ w'.cell? ⟨w3.heap.size + 1, 1, none⟩ = some (.int .i64 d.n) ∧ w'.cell? ⟨w3.heap.size + 1, 2, none⟩ = some (.int .i64 d.e) ∧ w'.cell? ⟨w3.heap.size + 1, 3, none⟩ = some (.string d.s) ∧ w'.cell? ⟨w3.heap.size + 1, 4, none⟩ = some (.slice Ad d.kids.length cd)) W) := Lib.hid (fun W h => by have C := C8; have Xa := (C.out.below h).five (p := w1.heap.size) (show (w1.heap.size, #[.int .i64 a.k, .int .i64 a.n, .int .i64 a.e, .string a.s, .slice Aa a.kids.length ca]) ∈ _ by simp); have Xb := (C.out.below h).five (p := w1.heap.size + 1) (show (w1.heap.size + 1, #[.int .i64 b.k, .int .i64 b.n, .int .i64 b.e, .string b.s, .slice Ab b.kids.length cb]) ∈ _ by simp); have Xc := (C.out.below h).five (p := w3.heap.size) (show (w3.heap.size, #[.int .i64 c.k, .int .i64 c.n, .int .i64 c.e, .string c.s, .slice Ac c.kids.length cc]) ∈ _ by simp); have Xd := (C.out.below h).five (p := w3.heap.size + 1) (show (w3.heap.size + 1, #[.int .i64 d.k, .int .i64 d.n, .int .i64 d.e, .string d.s, .slice Ad d.kids.length cd]) ∈ _ by simp); exact ⟨Xa.1, Xa.2.1, Xa.2.2.1, Xa.2.2.2.1, Xa.2.2.2.2, Xb.1, Xb.2.1, Xb.2.2.1, Xb.2.2.2.1, Xb.2.2.2.2, Xc.1, Xc.2.1, Xc.2.2.1, Xc.2.2.2.1, Xc.2.2.2.2, Xd.1, Xd.2.1, Xd.2.2.1, Xd.2.2.2.1, Xd.2.2.2.2⟩)
      go_region_held3 (fun w' => w'.cell? ⟨w1.heap.size, 0, none⟩ = some (.int .i64 a.k) ∧ w'.cell? ⟨w1.heap.size, 1, none⟩ = some (.int .i64 a.n) ∧ w'.cell? ⟨w1.heap.size, 2, none⟩ = some (.int .i64 a.e) ∧ w'.cell? ⟨w1.heap.size, 3, none⟩ = some (.string a.s) ∧ w'.cell? ⟨w1.heap.size, 4, none⟩ = some (.slice Aa a.kids.length ca) ∧ w'.cell? ⟨w1.heap.size + 1, 0, none⟩ = some (.int .i64 b.k) ∧ w'.cell? ⟨w1.heap.size + 1, 1, none⟩ = some (.int .i64 b.n) ∧ w'.cell? ⟨w1.heap.size + 1, 2, none⟩ = some (.int .i64 b.e) ∧ w'.cell? ⟨w1.heap.size + 1, 3, none⟩ = some (.string b.s) ∧ w'.cell? ⟨w1.heap.size + 1, 4, none⟩ = some (.slice Ab b.kids.length cb) ∧ w'.cell? ⟨w3.heap.size, 0, none⟩ = some (.int .i64 c.k) ∧ w'.cell? ⟨w3.heap.size, 1, none⟩ = some (.int .i64 c.n) ∧ w'.cell? ⟨w3.heap.size, 2, none⟩ = some (.int .i64 c.e) ∧ w'.cell? ⟨w3.heap.size, 3, none⟩ = some (.string c.s) ∧ w'.cell? ⟨w3.heap.size, 4, none⟩ = some (.slice Ac c.kids.length cc) ∧ w'.cell? ⟨w3.heap.size + 1, 0, none⟩ = some (.int .i64 d.k) ∧ w'.cell? ⟨w3.heap.size + 1, 1, none⟩ = some (.int .i64 d.n) ∧ w'.cell? ⟨w3.heap.size + 1, 2, none⟩ = some (.int .i64 d.e) ∧ w'.cell? ⟨w3.heap.size + 1, 3, none⟩ = some (.string d.s) ∧ w'.cell? ⟨w3.heap.size + 1, 4, none⟩ = some (.slice Ad d.kids.length cd))
        (first | exact KE.out _ h3 | exact KE.out _ h2 | exact KE.out _ h1 | exact KE.out _ hbr.drew | exact KE.out _ hbr)
        (first
        | (go_at_call_of 23 (Value.int .i64 a.k); refine (HLA.out _ ((KC.out _ hbr.drew).at_ (by simp)) ((KC.out _ hbr.drew).at_ (by simp))).mono ?_; rintro e v1 ⟨rfl, hb⟩; have h1 : Below v7.heap.size v7 v1 := hbr.drew.trans hb; clear hb)
        | (have hgate := h1; clear hgate; go_at_call 19; refine (HSI.out _ ((KC.out _ h1).at_ (by simp)) ((KC.out _ h1).at_ (by simp))).mono ?_; rintro e v2 ⟨rfl, hb⟩; have h2 := h1.trans (hb.mono h1.size); clear hb)
        | (have hgate := h2; clear hgate; go_at_call 23; refine (HLC.out _ ((KC.out _ h2).at_ (by simp)) ((KC.out _ h2).at_ (by simp))).mono ?_; rintro e v3 ⟨rfl, hb⟩; have h3 := h2.trans (hb.mono h2.size); clear hb))
      clear KE
      have C9 := Lib.hid (KC.out _ h3)
      go_wp2_with fail
      go_meet
      case rel => exact ⟨rfl, C9⟩
    · have q0 : (z == 0) = false := by rw [beq_eq_false_iff_ne]; exact hz0
      rw [show decide (z = 0) = false from decide_eq_false hz0] at HLA
      clear hz0
      have hbr : Below v7.heap.size v7 v7 := Below.refl _ _
      have KC := Lib.hid (fun W (h : Below v7.heap.size v7 W) => C8.out.below h)
      have KE : Hid (∀ W, Below v7.heap.size v7 W → (fun w' => w'.cell? ⟨w1.heap.size, 0, none⟩ = some (.int .i64 a.k) ∧ w'.cell? ⟨w1.heap.size, 1, none⟩ = some (.int .i64 a.n) ∧ w'.cell? ⟨w1.heap.size, 2, none⟩ = some (.int .i64 a.e) ∧ w'.cell? ⟨w1.heap.size, 3, none⟩ = some (.string a.s) ∧ w'.cell? ⟨w1.heap.size, 4, none⟩ = some (.slice Aa a.kids.length ca) ∧ w'.cell? ⟨w1.heap.size + 1, 0, none⟩ = some (.int .i64 b.k) ∧ w'.cell? ⟨w1.heap.size + 1, 1, none⟩ = some (.int .i64 b.n) ∧ w'.cell? ⟨w1.heap.size + 1, 2, none⟩ = some (.int .i64 b.e) ∧ w'.cell? ⟨w1.heap.size + 1, 3, none⟩ = some (.string b.s) ∧ w'.cell? ⟨w1.heap.size + 1, 4, none⟩ = some (.slice Ab b.kids.length cb) ∧ w'.cell? ⟨w3.heap.size, 0, none⟩ = some (.int .i64 c.k) ∧ w'.cell? ⟨w3.heap.size, 1, none⟩ = some (.int .i64 c.n) ∧ w'.cell? ⟨w3.heap.size, 2, none⟩ = some (.int .i64 c.e) ∧ w'.cell? ⟨w3.heap.size, 3, none⟩ = some (.string c.s) ∧ w'.cell? ⟨w3.heap.size, 4, none⟩ = some (.slice Ac c.kids.length cc) ∧ w'.cell? ⟨w3.heap.size + 1, 0, none⟩ = some (.int .i64 d.k) ∧ w'.cell? ⟨w3.heap.size + 1, 1, none⟩ = some (.int .i64 d.n) ∧ w'.cell? ⟨w3.heap.size + 1, 2, none⟩ = some (.int .i64 d.e) ∧ w'.cell? ⟨w3.heap.size + 1, 3, none⟩ = some (.string d.s) ∧ w'.cell? ⟨w3.heap.size + 1, 4, none⟩ = some (.slice Ad d.kids.length cd)) W) := Lib.hid (fun W h => by have C := C8; have Xa := (C.out.below h).five (p := w1.heap.size) (show (w1.heap.size, #[.int .i64 a.k, .int .i64 a.n, .int .i64 a.e, .string a.s, .slice Aa a.kids.length ca]) ∈ _ by simp); have Xb := (C.out.below h).five (p := w1.heap.size + 1) (show (w1.heap.size + 1, #[.int .i64 b.k, .int .i64 b.n, .int .i64 b.e, .string b.s, .slice Ab b.kids.length cb]) ∈ _ by simp); have Xc := (C.out.below h).five (p := w3.heap.size) (show (w3.heap.size, #[.int .i64 c.k, .int .i64 c.n, .int .i64 c.e, .string c.s, .slice Ac c.kids.length cc]) ∈ _ by simp); have Xd := (C.out.below h).five (p := w3.heap.size + 1) (show (w3.heap.size + 1, #[.int .i64 d.k, .int .i64 d.n, .int .i64 d.e, .string d.s, .slice Ad d.kids.length cd]) ∈ _ by simp); exact ⟨Xa.1, Xa.2.1, Xa.2.2.1, Xa.2.2.2.1, Xa.2.2.2.2, Xb.1, Xb.2.1, Xb.2.2.1, Xb.2.2.2.1, Xb.2.2.2.2, Xc.1, Xc.2.1, Xc.2.2.1, Xc.2.2.2.1, Xc.2.2.2.2, Xd.1, Xd.2.1, Xd.2.2.1, Xd.2.2.2.1, Xd.2.2.2.2⟩)
      go_region_held3 (fun w' => w'.cell? ⟨w1.heap.size, 0, none⟩ = some (.int .i64 a.k) ∧ w'.cell? ⟨w1.heap.size, 1, none⟩ = some (.int .i64 a.n) ∧ w'.cell? ⟨w1.heap.size, 2, none⟩ = some (.int .i64 a.e) ∧ w'.cell? ⟨w1.heap.size, 3, none⟩ = some (.string a.s) ∧ w'.cell? ⟨w1.heap.size, 4, none⟩ = some (.slice Aa a.kids.length ca) ∧ w'.cell? ⟨w1.heap.size + 1, 0, none⟩ = some (.int .i64 b.k) ∧ w'.cell? ⟨w1.heap.size + 1, 1, none⟩ = some (.int .i64 b.n) ∧ w'.cell? ⟨w1.heap.size + 1, 2, none⟩ = some (.int .i64 b.e) ∧ w'.cell? ⟨w1.heap.size + 1, 3, none⟩ = some (.string b.s) ∧ w'.cell? ⟨w1.heap.size + 1, 4, none⟩ = some (.slice Ab b.kids.length cb) ∧ w'.cell? ⟨w3.heap.size, 0, none⟩ = some (.int .i64 c.k) ∧ w'.cell? ⟨w3.heap.size, 1, none⟩ = some (.int .i64 c.n) ∧ w'.cell? ⟨w3.heap.size, 2, none⟩ = some (.int .i64 c.e) ∧ w'.cell? ⟨w3.heap.size, 3, none⟩ = some (.string c.s) ∧ w'.cell? ⟨w3.heap.size, 4, none⟩ = some (.slice Ac c.kids.length cc) ∧ w'.cell? ⟨w3.heap.size + 1, 0, none⟩ = some (.int .i64 d.k) ∧ w'.cell? ⟨w3.heap.size + 1, 1, none⟩ = some (.int .i64 d.n) ∧ w'.cell? ⟨w3.heap.size + 1, 2, none⟩ = some (.int .i64 d.e) ∧ w'.cell? ⟨w3.heap.size + 1, 3, none⟩ = some (.string d.s) ∧ w'.cell? ⟨w3.heap.size + 1, 4, none⟩ = some (.slice Ad d.kids.length cd))
        (first | exact KE.out _ h3 | exact KE.out _ h2 | exact KE.out _ h1 | exact KE.out _ hbr.drew | exact KE.out _ hbr)
        (first
        | (go_at_call_of 23 (Value.int .i64 a.k); refine (HLA.out _ ((KC.out _ hbr.drew).at_ (by simp)) ((KC.out _ hbr.drew).at_ (by simp))).mono ?_; rintro e v1 ⟨rfl, hb⟩; have h1 : Below v7.heap.size v7 v1 := hbr.drew.trans hb; clear hb)
        | (have hgate := h1; clear hgate; go_at_call 19; refine (HSI.out _ ((KC.out _ h1).at_ (by simp)) ((KC.out _ h1).at_ (by simp))).mono ?_; rintro e v2 ⟨rfl, hb⟩; have h2 := h1.trans (hb.mono h1.size); clear hb)
        | (have hgate := h2; clear hgate; go_at_call 23; refine (HLC.out _ ((KC.out _ h2).at_ (by simp)) ((KC.out _ h2).at_ (by simp))).mono ?_; rintro e v3 ⟨rfl, hb⟩; have h3 := h2.trans (hb.mono h2.size); clear hb))
      clear KE
      have C9 := Lib.hid (KC.out _ h3)
      go_wp2_with fail
      go_meet
      case rel => exact ⟨rfl, C9⟩
  case rest =>
  obtain ⟨rfl, C9⟩ := hcut
  clear C8 HCS HCB HCA HSI HSS HOI HOS HLA HLC hn1 hn2 hn3 hw1 hw2 hw3 hw4
  go_upto_region 11 with fail
  go_cut [9, 10, 11] from 79 (fun x y z' wx => ∃ p q r n : Nat, x = .pointer (some ⟨p, 0, none⟩) ∧ y = .pointer (some ⟨q, 0, none⟩) ∧ z' = .pointer (some ⟨r, 0, none⟩) ∧ Hid (p ≠ q ∧ q ≠ r ∧ p ≠ r ∧ w0.heap.size ≤ n ∧ n ≤ p ∧ n ≤ q) ∧ Hid (Vs.at_ wx 0 n a.kids Aa ∧ Vs.at_ wx 0 n b.kids Ab ∧ Vs.at_ wx 0 n c.kids Ac) ∧ Hid (Ctx w0 ((p, #[.int .i64 a.k, .int .i64 a.n, .int .i64 a.e, .string a.s, .slice Aa a.kids.length ca]) :: (q, #[.int .i64 b.k, .int .i64 b.n, .int .i64 b.e, .string b.s, .slice Ab b.kids.length cb]) :: (r, #[.int .i64 c.k, .int .i64 c.n, .int .i64 c.e, .string c.s, .slice Ac c.kids.length cc]) :: [(w5.heap.size, #[.int .i64 o.k, .int .i64 o.n, .int .i64 o.e, .string o.s, .slice Ao o.kids.length co]), (w3.heap.size + 1, #[.int .i64 d.k, .int .i64 d.n, .int .i64 d.e, .string d.s, .slice Ad d.kids.length cd]), (w3.heap.size, #[.int .i64 c.k, .int .i64 c.n, .int .i64 c.e, .string c.s, .slice Ac c.kids.length cc]), (w1.heap.size + 1, #[.int .i64 b.k, .int .i64 b.n, .int .i64 b.e, .string b.s, .slice Ab b.kids.length cb]), (w1.heap.size, #[.int .i64 a.k, .int .i64 a.n, .int .i64 a.e, .string a.s, .slice Aa a.kids.length ca])]) [(o, Ao), (d, Ad), (c, Ac), (b, Ab), (a, Aa)] wx))
  case first =>
    obtain ⟨ta0, ta1, ta2, ta3, ta4⟩ := C9.out.five (p := w1.heap.size) (show (w1.heap.size, #[.int .i64 a.k, .int .i64 a.n, .int .i64 a.e, .string a.s, .slice Aa a.kids.length ca]) ∈ _ by simp)
    obtain ⟨tb0, tb1, tb2, tb3, tb4⟩ := C9.out.five (p := w1.heap.size + 1) (show (w1.heap.size + 1, #[.int .i64 b.k, .int .i64 b.n, .int .i64 b.e, .string b.s, .slice Ab b.kids.length cb]) ∈ _ by simp)
    obtain ⟨tc0, tc1, tc2, tc3, tc4⟩ := C9.out.five (p := w3.heap.size) (show (w3.heap.size, #[.int .i64 c.k, .int .i64 c.n, .int .i64 c.e, .string c.s, .slice Ac c.kids.length cc]) ∈ _ by simp)
    have HP : Hid (∀ (o1 o2 o3 : Obj), Vs.at_ (((wc.alloc o1).alloc o2).alloc o3).drew 0 wc.heap.size a.kids Aa ∧ Vs.at_ (((wc.alloc o1).alloc o2).alloc o3).drew 0 wc.heap.size b.kids Ab ∧ Vs.at_ (((wc.alloc o1).alloc o2).alloc o3).drew 0 wc.heap.size c.kids Ac) := Lib.hid (fun o1 o2 o3 => by
      have hb : Below wc.heap.size wc (((wc.alloc o1).alloc o2).alloc o3).drew := ((((Below.refl _ wc).alloc (Nat.le_refl _) o1).alloc (by simp) o2).alloc (by simp; omega) o3).drew
      exact ⟨Vs.at_below (C9.out.at_ (by simp)) hb (Nat.le_refl _), Vs.at_below (C9.out.at_ (by simp)) hb (Nat.le_refl _), Vs.at_below (C9.out.at_ (by simp)) hb (Nat.le_refl _)⟩)
    have hz9 := C9.out.1.size
    have hbr : Below wc.heap.size wc wc := Below.refl _ _
    have KE : Hid (∀ W, Below wc.heap.size wc W → (fun w' => w'.cell? ⟨w1.heap.size, 0, none⟩ = some (.int .i64 a.k) ∧ w'.cell? ⟨w1.heap.size, 1, none⟩ = some (.int .i64 a.n) ∧ w'.cell? ⟨w1.heap.size, 2, none⟩ = some (.int .i64 a.e) ∧ w'.cell? ⟨w1.heap.size, 3, none⟩ = some (.string a.s) ∧ w'.cell? ⟨w1.heap.size, 4, none⟩ = some (.slice Aa a.kids.length ca) ∧ w'.cell? ⟨w1.heap.size + 1, 0, none⟩ = some (.int .i64 b.k) ∧ w'.cell? ⟨w1.heap.size + 1, 1, none⟩ = some (.int .i64 b.n) ∧ w'.cell? ⟨w1.heap.size + 1, 2, none⟩ = some (.int .i64 b.e) ∧ w'.cell? ⟨w1.heap.size + 1, 3, none⟩ = some (.string b.s) ∧ w'.cell? ⟨w1.heap.size + 1, 4, none⟩ = some (.slice Ab b.kids.length cb) ∧ w'.cell? ⟨w3.heap.size, 0, none⟩ = some (.int .i64 c.k) ∧ w'.cell? ⟨w3.heap.size, 1, none⟩ = some (.int .i64 c.n) ∧ w'.cell? ⟨w3.heap.size, 2, none⟩ = some (.int .i64 c.e) ∧ w'.cell? ⟨w3.heap.size, 3, none⟩ = some (.string c.s) ∧ w'.cell? ⟨w3.heap.size, 4, none⟩ = some (.slice Ac c.kids.length cc)) W) := Lib.hid (fun W h => by have C := C9; have Xa := (C.out.below h).five (p := w1.heap.size) (show (w1.heap.size, #[.int .i64 a.k, .int .i64 a.n, .int .i64 a.e, .string a.s, .slice Aa a.kids.length ca]) ∈ _ by simp); have Xb := (C.out.below h).five (p := w1.heap.size + 1) (show (w1.heap.size + 1, #[.int .i64 b.k, .int .i64 b.n, .int .i64 b.e, .string b.s, .slice Ab b.kids.length cb]) ∈ _ by simp); have Xc := (C.out.below h).five (p := w3.heap.size) (show (w3.heap.size, #[.int .i64 c.k, .int .i64 c.n, .int .i64 c.e, .string c.s, .slice Ac c.kids.length cc]) ∈ _ by simp); exact ⟨Xa.1, Xa.2.1, Xa.2.2.1, Xa.2.2.2.1, Xa.2.2.2.2, Xb.1, Xb.2.1, Xb.2.2.1, Xb.2.2.2.1, Xb.2.2.2.2, Xc.1, Xc.2.1, Xc.2.2.1, Xc.2.2.2.1, Xc.2.2.2.2⟩)
    go_region_held3 (fun w' => w'.cell? ⟨w1.heap.size, 0, none⟩ = some (.int .i64 a.k) ∧ w'.cell? ⟨w1.heap.size, 1, none⟩ = some (.int .i64 a.n) ∧ w'.cell? ⟨w1.heap.size, 2, none⟩ = some (.int .i64 a.e) ∧ w'.cell? ⟨w1.heap.size, 3, none⟩ = some (.string a.s) ∧ w'.cell? ⟨w1.heap.size, 4, none⟩ = some (.slice Aa a.kids.length ca) ∧ w'.cell? ⟨w1.heap.size + 1, 0, none⟩ = some (.int .i64 b.k) ∧ w'.cell? ⟨w1.heap.size + 1, 1, none⟩ = some (.int .i64 b.n) ∧ w'.cell? ⟨w1.heap.size + 1, 2, none⟩ = some (.int .i64 b.e) ∧ w'.cell? ⟨w1.heap.size + 1, 3, none⟩ = some (.string b.s) ∧ w'.cell? ⟨w1.heap.size + 1, 4, none⟩ = some (.slice Ab b.kids.length cb) ∧ w'.cell? ⟨w3.heap.size, 0, none⟩ = some (.int .i64 c.k) ∧ w'.cell? ⟨w3.heap.size, 1, none⟩ = some (.int .i64 c.n) ∧ w'.cell? ⟨w3.heap.size, 2, none⟩ = some (.int .i64 c.e) ∧ w'.cell? ⟨w3.heap.size, 3, none⟩ = some (.string c.s) ∧ w'.cell? ⟨w3.heap.size, 4, none⟩ = some (.slice Ac c.kids.length cc))
      (exact KE.out _ (by repeat (first | exact Below.refl _ _ | refine Below.drew ?_ | refine Below.alloc ?_ (by simp; try omega) _ | refine Below.setCell ?_ (by simp; try omega) _)))
      (fail)
    clear KE hbr
    all_goals
      go_wp2_with fail
      go_meet
      case rel => exact ⟨_, _, _, wc.heap.size, rfl, rfl, rfl, Lib.hid (by omega), Lib.hid (HP.out _ _ _), Lib.hid ((C9.out.new3 _ _ _).sub (by simp))⟩
  case rest =>
  obtain ⟨p, q, r, n, rfl, rfl, rfl, HN, HK, D0⟩ := hcut
  clear C9
  obtain ⟨X0, X1, X2, X3, X4⟩ := D0.out.five (p := p) (show (p, #[.int .i64 a.k, .int .i64 a.n, .int .i64 a.e, .string a.s, .slice Aa a.kids.length ca]) ∈ _ by simp)
  obtain ⟨Y0, Y1, Y2, Y3, Y4⟩ := D0.out.five (p := q) (show (q, #[.int .i64 b.k, .int .i64 b.n, .int .i64 b.e, .string b.s, .slice Ab b.kids.length cb]) ∈ _ by simp)
  go_wp2_with fail
  refine (HCI.out _ (D0.out.at_ (by simp)) (D0.out.at_ (by simp))).mono ?_
  rintro e wd ⟨rfl, hb⟩
  have D1 := Lib.hid (D0.out.below hb)
  have hnw : n ≤ wc.heap.size := by
    have h1 := (D0.out.blk (p := p) (cs := #[.int .i64 a.k, .int .i64 a.n, .int .i64 a.e, .string a.s, .slice Aa a.kids.length ca]) (by simp)).lt
    have h2 := HN.out.2.2.2.2.1
    omega
  have HK1 := Lib.hid (And.intro (Vs.at_below HK.out.1 hb hnw) (And.intro (Vs.at_below HK.out.2.1 hb hnw) (Vs.at_below HK.out.2.2 hb hnw)))
  clear hb HK D0 X0 X1 X2 X3 X4 Y0 Y1 Y2 Y3 Y4
  by_cases hpos : 0 < z
  · have qp : decide (0 < z) = true := decide_eq_true hpos
    obtain ⟨X0, X1, X2, X3, X4⟩ := D1.out.five (p := p) (show (p, #[.int .i64 a.k, .int .i64 a.n, .int .i64 a.e, .string a.s, .slice Aa a.kids.length ca]) ∈ _ by simp)
    obtain ⟨Y0, Y1, Y2, Y3, Y4⟩ := D1.out.five (p := q) (show (q, #[.int .i64 b.k, .int .i64 b.n, .int .i64 b.e, .string b.s, .slice Ab b.kids.length cb]) ∈ _ by simp)
    have BP := D1.out.blk (p := p) (cs := #[.int .i64 a.k, .int .i64 a.n, .int .i64 a.e, .string a.s, .slice Aa a.kids.length ca]) (by simp)
    have BQ := D1.out.blk (p := q) (cs := #[.int .i64 b.k, .int .i64 b.n, .int .i64 b.e, .string b.s, .slice Ab b.kids.length cb]) (by simp)
    have f0 := BP.frozen 0
    have f1 := BP.frozen 1
    have f2 := BP.frozen 2
    have f3 := BP.frozen 3
    have f4 := BP.frozen 4
    have g0 := BQ.frozen 0
    have g1 := BQ.frozen 1
    have g2 := BQ.frozen 2
    have g3 := BQ.frozen 3
    have g4 := BQ.frozen 4
    have hpq : ¬ p = q := HN.out.1
    have hqp : ¬ q = p := Ne.symm HN.out.1
    clear BP BQ
    go_upto_region 14 with fail
    obtain ⟨hn1, hn2, hn3, hn4, hn5, hn6⟩ := HN.out
    obtain ⟨W, hW⟩ : ∃ W, W = st5 (st5 wd p (.int .i64 b.k) (.int .i64 b.n) (.int .i64 b.e) (.string b.s) (.slice Ab b.kids.length cb)) q (.int .i64 a.k) (.int .i64 a.n) (.int .i64 a.e) (.string a.s) (.slice Aa a.kids.length ca) := ⟨_, rfl⟩
    have hnw2 : n ≤ wd.heap.size := by
      have h1 := (D1.out.blk (p := p) (cs := #[.int .i64 a.k, .int .i64 a.n, .int .i64 a.e, .string a.s, .slice Aa a.kids.length ca]) (by simp)).lt
      omega
    have C2 : Hid (Ctx w0 [(p, #[.int .i64 b.k, .int .i64 b.n, .int .i64 b.e, .string b.s, .slice Ab b.kids.length cb]), (q, #[.int .i64 a.k, .int .i64 a.n, .int .i64 a.e, .string a.s, .slice Aa a.kids.length ca]), (r, #[.int .i64 c.k, .int .i64 c.n, .int .i64 c.e, .string c.s, .slice Ac c.kids.length cc])] [(a, Aa), (b, Ab), (c, Ac)] W) := Lib.hid (by
      rw [hW]
      refine ⟨st5_below (st5_below D1.out.1 (by omega) _ _ _ _ _) (by omega) _ _ _ _ _, fun x hx => ?_, fun x hx => ?_⟩
      · have BP := D1.out.blk (p := p) (cs := #[.int .i64 a.k, .int .i64 a.n, .int .i64 a.e, .string a.s, .slice Aa a.kids.length ca]) (by simp)
        have BQ := D1.out.blk (p := q) (cs := #[.int .i64 b.k, .int .i64 b.n, .int .i64 b.e, .string b.s, .slice Ab b.kids.length cb]) (by simp)
        have BR := D1.out.blk (p := r) (cs := #[.int .i64 c.k, .int .i64 c.n, .int .i64 c.e, .string c.s, .slice Ac c.kids.length cc]) (by simp)
        simp only [List.mem_cons, List.not_mem_nil, or_false] at hx
        rcases hx with rfl | rfl | rfl
        · exact st5_other (st5_blk BP _ _ _ _ _) hn1 _ _ _ _ _
        · exact st5_blk (st5_other BQ (Ne.symm hn1) _ _ _ _ _) _ _ _ _ _
        · exact st5_other (st5_other BR (Ne.symm hn3) _ _ _ _ _) (Ne.symm hn2) _ _ _ _ _
      · have hsz : (st5 (st5 wd p (.int .i64 b.k) (.int .i64 b.n) (.int .i64 b.e) (.string b.s) (.slice Ab b.kids.length cb)) q (.int .i64 a.k) (.int .i64 a.n) (.int .i64 a.e) (.string a.s) (.slice Aa a.kids.length ca)).heap.size = wd.heap.size := by unfold st5; simp
        rw [hsz]
        simp only [List.mem_cons, List.not_mem_nil, or_false] at hx
        rcases hx with rfl | rfl | rfl
        · exact Vs.at_more (Nat.le_refl _) hnw2 _ _ (st5_at' (st5_at' HK1.out.1 hn5 _ _ _ _ _) hn6 _ _ _ _ _)
        · exact Vs.at_more (Nat.le_refl _) hnw2 _ _ (st5_at' (st5_at' HK1.out.2.1 hn5 _ _ _ _ _) hn6 _ _ _ _ _)
        · exact Vs.at_more (Nat.le_refl _) hnw2 _ _ (st5_at' (st5_at' HK1.out.2.2 hn5 _ _ _ _ _) hn6 _ _ _ _ _))
    unfold st5 at hW
    rw [← hW]
    clear hW hn1 hn2 hn3 hn4 hn5 hn6 hnw2 hnw HK1 D1 f0 f1 f2 f3 f4 g0 g1 g2 g3 g4 X0 X1 X2 X3 X4 Y0 Y1 Y2 Y3 Y4 hpq hqp
    obtain ⟨X0, X1, X2, X3, X4⟩ := C2.out.five (p := q) (show (q, #[.int .i64 a.k, .int .i64 a.n, .int .i64 a.e, .string a.s, .slice Aa a.kids.length ca]) ∈ _ by simp)
    obtain ⟨Y0, Y1, Y2, Y3, Y4⟩ := C2.out.five (p := r) (show (r, #[.int .i64 c.k, .int .i64 c.n, .int .i64 c.e, .string c.s, .slice Ac c.kids.length cc]) ∈ _ by simp)
    go_wp2_with fail
    refine (HAC.out _ (C2.out.at_ (by simp)) (C2.out.at_ (by simp))).mono ?_
    rintro e we ⟨rfl, hb⟩
    have D2 := Lib.hid (C2.out.below hb)
    clear hb C2 X0 X1 X2 X3 X4 Y0 Y1 Y2 Y3 Y4
    by_cases hp2 : 0 < za
    · have q2 : decide (0 < za) = true := decide_eq_true hp2
      go_wp2_with fail
      go_ret
      exact ⟨rfl, D2.out.1⟩
    · have q2 : decide (0 < za) = false := decide_eq_false hp2
      have q3 : decide (zb ≤ 0) = true := decide_eq_true (HT2.out.1 (by omega) (by omega))
      obtain ⟨X0, X1, X2, X3, X4⟩ := D2.out.five (p := p) (show (p, #[.int .i64 b.k, .int .i64 b.n, .int .i64 b.e, .string b.s, .slice Ab b.kids.length cb]) ∈ _ by simp)
      obtain ⟨Y0, Y1, Y2, Y3, Y4⟩ := D2.out.five (p := r) (show (r, #[.int .i64 c.k, .int .i64 c.n, .int .i64 c.e, .string c.s, .slice Ac c.kids.length cc]) ∈ _ by simp)
      go_wp2_with fail
      refine (HBC.out _ (D2.out.at_ (by simp)) (D2.out.at_ (by simp))).mono ?_
      rintro e wf ⟨rfl, hb⟩
      have D3 := Lib.hid (D2.out.below hb)
      clear hb
      go_wp2_with fail
      go_ret
      exact ⟨rfl, D3.out.1⟩
  · have qp : decide (0 < z) = false := decide_eq_false hpos
    have hnz : z ≤ 0 := by omega
    obtain ⟨X0, X1, X2, X3, X4⟩ := D1.out.five (p := q) (show (q, #[.int .i64 b.k, .int .i64 b.n, .int .i64 b.e, .string b.s, .slice Ab b.kids.length cb]) ∈ _ by simp)
    obtain ⟨Y0, Y1, Y2, Y3, Y4⟩ := D1.out.five (p := r) (show (r, #[.int .i64 c.k, .int .i64 c.n, .int .i64 c.e, .string c.s, .slice Ac c.kids.length cc]) ∈ _ by simp)
    go_wp2_with fail
    refine (HBC.out _ (D1.out.at_ (by simp)) (D1.out.at_ (by simp))).mono ?_
    rintro e we ⟨rfl, hb⟩
    have D2 := Lib.hid (D1.out.below hb)
    clear hb D1 X0 X1 X2 X3 X4 Y0 Y1 Y2 Y3 Y4 HK1
    by_cases hp2 : 0 < zb
    · have q2 : decide (0 < zb) = true := decide_eq_true hp2
      go_wp2_with fail
      go_ret
      exact ⟨rfl, D2.out.1⟩
    · have q2 : decide (0 < zb) = false := decide_eq_false hp2
      have q3 : decide (za ≤ 0) = true := decide_eq_true (HT1.out.1 hnz (by omega))
      obtain ⟨X0, X1, X2, X3, X4⟩ := D2.out.five (p := p) (show (p, #[.int .i64 a.k, .int .i64 a.n, .int .i64 a.e, .string a.s, .slice Aa a.kids.length ca]) ∈ _ by simp)
      obtain ⟨Y0, Y1, Y2, Y3, Y4⟩ := D2.out.five (p := r) (show (r, #[.int .i64 c.k, .int .i64 c.n, .int .i64 c.e, .string c.s, .slice Ac c.kids.length cc]) ∈ _ by simp)
      go_wp2_with fail
      refine (HAC.out _ (D2.out.at_ (by simp)) (D2.out.at_ (by simp))).mono ?_
      rintro e wf ⟨rfl, hb⟩
      have D3 := Lib.hid (D2.out.below hb)
      clear hb
      go_wp2_with fail
      go_ret
      exact ⟨rfl, D3.out.1⟩

theorem walk (t0 : List Int) (A0 : Option Addr) (c0 : Nat) (f0 : t0.length ≤ maxLen) (g0 : ∀ z ∈ t0, (Lit.int .u8 z).wf = true) (w : World) (at0 : At1 w w.heap.size A0 (t0.map (Value.int .u8))) (hT : Tabs w) :
    Calls Tryd.prog 4 #[.slice A0 t0.length c0] w fun e w' => e = .returned (.bool true) ∧ Below w.heap.size w w' := by
  obtain ⟨code, hl, hm⟩ := bytes_of t0 g0
  rw [hm] at at0
  rw [← hl]
  by_cases h : 1048576 < code.length
  · clear at0 hm hl
    go_enter Tryd.func4, Tryd.ntmps4
    go_wp2_with fail
    refine (lawBigY A0 code.length c0 w h).mono ?_
    rintro e w0 ⟨rfl, hw0⟩
    subst hw0
    go_wp2_with fail
    go_ret
    exact ⟨rfl, Below.refl _ _⟩
  · exact walk1 code A0 c0 (by omega) w at0 hT

set_option maxRecDepth 100000 in
theorem lifted (os : Os) (started : os.Started) (H : Type) (enc : TypeId × Value → H) :
    ReturnsInHanded {} Tryd.checked os 4 .any (fun w args => (Rows.fnCompareSpec.pre enc Tryd.prog Tryd.f4 [] false w args ∧ laidMetH Tryd.prog Rows.fnCompareRow.laid w) ∧ sizedMet enc Tryd.prog Tryd.f4 (OpenSpec.ofChange Rows.fnCompareSpec) false w args)
      (Rows.fnCompareSpec.post enc Tryd.prog Tryd.f4 false true false false) := by
  refine returnsInHanded_of_change_and (C := Tryd.checked) (X := fun w _ => laidMetH Tryd.prog Rows.fnCompareRow.laid w) (fun _ _ _ hh h => h.of_heap hh) own started (by kernel_rfl) Tryd.func4
    (ChangeSpec.witness_shaped (enc := enc) (C := Tryd.checked) (os := os) (X := fun w _ => laidMetH Tryd.prog Rows.fnCompareRow.laid w) false (World.laidAll Tryd.prog os Rows.fnCompareRow.laid) #[.slice none 0 0] 8 (World.laidAll_os _ _ _)
      (World.shaped_of_ZipB (by kernel_rfl) (by kernel_rfl)) (by kernel_rfl) (by kernel_rfl) (by kernel_rfl)
      (by rw [MakeChecks.laidMetH_plain _ _ _ (by kernel_rfl)]; exact laidMet_laidAll _ (by kernel_rfl) (by kernel_rfl))) ?_
  intro W base args ds gs before hval0 hW _ _ hL _
  rw [MakeChecks.laidMetH_plain _ _ _ (by kernel_rfl)] at hL
  have hT : Tabs W := tabs_of_laid hL (.head _) (.tail _ (.head _))
  have hval : ∀ (j : Nat) t v, Tryd.f4.params[j]? = some t → args[j]? = some v → Value.okWide Tryd.prog W .any base t v := hval0
  have hW' := hW
  obtain ⟨p, q, hA0, hV, rfl, hfz, hnd⟩ := hW
  have hA : DataW.TrodAll enc Tryd.prog W 0 (fun _ => true) true Tryd.f4.params.toList args.toList ds p := hA0
  rw [Tryd.params4] at hA hval
  obtain ⟨v0, vs0, d0, ds0, p0, q0, hargs, rfl, rfl, h0, r0⟩ := trodAll_cons hA
  obtain ⟨rfl, rfl, rfl⟩ := trodAll_nil r0
  obtain rfl : args = #[v0] := by cases args; simp_all
  obtain ⟨rfl, rfl⟩ := trodVars_none hV
  have k0 := h0
  have lt0 : ∀ x ∈ p0, x.block < W.heap.size := by obtain ⟨m, hm⟩ := k0; exact DataW.trod_lt m _ _ _ hm
  obtain ⟨t0, A0, c0, rfl, f0, g0, at0⟩ := open_kind Tryd.underlying34 Tryd.underlying5 (by kernel_rfl) (hval 0 34 v0 rfl rfl) h0
  clear hA0 hval0
  refine (walk t0 A0 c0 f0 g0 W at0 hT).mono fun e W' ⟨he, bel⟩ => ?_
  subst he
  exact ⟨_, rfl, _, _, _, [], _, [], hW', trodAll_mk1 (shut_bool Tryd.underlying4 _), (trodAll_cons_mk (Below.trod laidOut (by kernel_rfl) (of_decide_eq_true (by kernel_rfl)) k0 bel lt0) trodAll_mk0), rfl, bel.frame _, fun h => by cases h⟩

theorem over : Rows.fnCompareRow.holds Tryd.pinned (OpenSpec.ofChange Rows.fnCompareSpec) :=
  OpenClaim.holds_of_wide 4 Tryd.f4 rfl rfl rfl rfl rfl rfl rfl ⟨rfl, rfl, rfl, rfl, rfl⟩ rfl rfl rfl rfl rfl (by kernel_rfl) Tryd.func4 (by kernel_rfl)
    (of_decide_eq_true (by kernel_rfl)) (by unfold Func.isWrapper; first | (rw [if_pos (by decide +kernel)]; kernel_rfl) | (rw [if_neg (by decide +kernel)]; exact ⟨rfl, rfl⟩))
    (fun os started H enc _ => lifted os started H enc)

theorem proved : Rows.FnCompareCardSaid :=
  Claim7.holds_tied_plain_at .later [] _ _ _ _ over (fun _ h => by cases h) (by kernel_rfl) (fun _ h => by cases h) fnCompare_row_tie rfl ⟨rfl, rfl⟩ (by kernel_rfl) rfl
    (fun f fn hf hfn => by
      obtain rfl : f = 4 := Option.some.inj ((show Tryd.prog.funcNamed "loop.example/g00421/laws.FnCompare" = some 4 by kernel_rfl).symm.trans hf) |>.symm
      obtain rfl : fn = Tryd.f4 := (Option.some.inj (Tryd.func4.symm.trans hfn)).symm
      exact ⟨by kernel_rfl, fun j t ht => by
        rw [Tryd.params4] at ht
        have hm : t ∈ [34] := by simpa using Array.mem_of_getElem? ht
        have hall : ([34].all fun u => !Tryd.prog.wantsStandIn u) = true := by kernel_rfl
        exact (show Tryd.prog.wantsStandIn t = false by simpa using List.all_eq_true.1 hall t hm)⟩)
    (by kernel_rfl)
end Go.Proofs.YtcjamnfboifjeaaDoor.fnCompare
