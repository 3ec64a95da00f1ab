/-
  The program's isValue and ValueOk, whole.
-/
import Derived.Test.YtbflkcldjjpioaaDoorRightW
import Derived.Deep.RegionWith
namespace Go.Proofs.YtbflkcldjjpioaaDoor
open Go.RowKit
set_option linter.unusedVariables false
set_option maxRecDepth 100000
set_option linter.unusedSimpArgs false

theorem Keep.drewN {p : Nat} {a w : World} (h : Keep (fun _ k => k = p) a w) (n : Nat) : Keep (fun _ k => k = p) a (w.drewN n) := ⟨h.os, h.tape, h.output, h.size, h.block⟩
theorem keep_below {p : Nat} {a w w' : World} (h : Keep (fun _ k => k = p) a w) (hb : Below w.heap.size w w') : Keep (fun _ k => k = p) a w' :=
  ⟨hb.os.trans h.os, hb.tape.trans h.tape, hb.output.trans h.output, Nat.le_trans h.size hb.size, fun k hk hd => ⟨(hb.block k (Nat.lt_of_lt_of_le hk h.size)).trans (h.block k hk hd).1, hd⟩⟩
set_option maxHeartbeats 8000000 in
theorem implVal_step (v : V) (hk : ∀ i (h : i < v.kids.length), ImplValSaid v.kids[i]) : ImplValSaid v := by
  intro A cap L d p W w hw hL hd0 hd1 hT hat hb hp hB
  obtain ⟨hw1, hw2, hw3⟩ := V.weight_kids v
  have hnn : v.nodes ≤ 1048577 := by have := V.nodes_weight v; omega
  have hlt := hB.lt
  have hbs := hb.size
  have hl : v.kids.length ≤ 1048576 := by omega
  have c0 : ((((w.alloc (.cells #[.int .i64 v.k, .int .i64 v.n, .int .i64 v.e, .string v.s, .slice A v.kids.length cap] 34)).alloc (.cells #[.int .i64 d] 3)).alloc (.cells #[.pointer (some ⟨p, 0, none⟩)] 94))).cell? ⟨p, 0, none⟩ = some (.int .i64 L) := (((hB.alloc _).alloc _).alloc _).cell 0
  have f0 : ((((w.alloc (.cells #[.int .i64 v.k, .int .i64 v.n, .int .i64 v.e, .string v.s, .slice A v.kids.length cap] 34)).alloc (.cells #[.int .i64 d] 3)).alloc (.cells #[.pointer (some ⟨p, 0, none⟩)] 94))).frozen? ⟨p, 0, none⟩ = false := (((hB.alloc _).alloc _).alloc _).frozen 0
  have HB := Lib.hid hB
  have HW := Lib.hid hb
  have HT := Lib.hid hT
  have HA := Lib.hid hat
  have HC := Lib.hid hk
  have HF := Lib.hid (val_frame (w := w) (p := p) (tv := 34) (ti := 3) (tp := 94) (cs := #[.int .i64 v.k, .int .i64 v.n, .int .i64 v.e, .string v.s, .slice A v.kids.length cap]) (u' := .int .i64 ((L : Int) - 1)) (d := .int .i64 d) (q := .pointer (some ⟨p, 0, none⟩)) hB)
  clear hB hb hT hat hk
  unfold V.agg
  go_enter Tryd.func93, Tryd.ntmps93
  go_wp2_with fail
  obtain ⟨w3, hw3, Bv, Bd, Bl, Bp, K3⟩ := HF.out
  rw [← hw3]
  clear hw3 HF c0 f0
  have hbw3 : Below W.heap.size W w3 := K3.below HW.out hbs (fun k hk => by omega)
  have HW3 := Lib.hid hbw3
  have HK3 := Lib.hid K3
  have HBV := Lib.hid Bv
  have HBD := Lib.hid Bd
  have HBL := Lib.hid Bl
  have HBP := Lib.hid Bp
  have hs3 := K3.size
  have lv := Bv.lt
  have ld := Bd.lt
  have ll := Bl.lt
  have lp := Bp.lt
  obtain ⟨p0, p1, p2, p3, p4⟩ := Bv.five
  have q0 := Bd.cell 0
  have q1 := Bl.cell 0
  have q2 := Bp.cell 0
  clear K3 Bv Bd Bl Bp hbw3
  by_cases hL0 : L = 0
  · subst hL0
    have g1 : decide (((0 : Nat) : Int) - 1 < 0) = true := decide_eq_true (by omega)
    go_quiet (fail)
    go_wp2_with fail
    go_ret
    exact ⟨ret_bool (decide_eq_false inV_no1).symm, fun h => absurd h inV_no1, Keep.drewN HK3.out _⟩
  have g1 : decide ((L : Int) - 1 < 0) = false := decide_eq_false (by omega)
  by_cases hd : 12 < d
  · have g2 : decide (12 < d) = true := decide_eq_true hd
    go_quiet (fail)
    go_wp2_with fail
    go_ret
    exact ⟨ret_bool (decide_eq_false (inV_no2 hd)).symm, fun h => absurd h (inV_no2 hd), Keep.drewN HK3.out _⟩
  have g2 : decide (12 < d) = false := decide_eq_false hd
  by_cases hkl : (L : Int) - 1 < v.kids.length
  · have g3 : decide ((L : Int) - 1 < v.kids.length) = true := decide_eq_true hkl
    have HNO : Hid (¬ inV L d v) := Lib.hid (inV_no3 (by omega))
    go_quiet (fail)
    go_wp2_with fail
    go_ret
    exact ⟨ret_bool (decide_eq_false HNO.out).symm, fun h => absurd h HNO.out, Keep.drewN HK3.out _⟩
  have g3 : decide ((L : Int) - 1 < v.kids.length) = false := decide_eq_false hkl
  have keep0 : ∀ w' : World, Below w3.heap.size w3 w' → w'.cell? ⟨w.heap.size, 0, none⟩ = some (.int .i64 v.k) ∧ w'.cell? ⟨w.heap.size, 1, none⟩ = some (.int .i64 v.n) ∧ w'.cell? ⟨w.heap.size, 2, none⟩ = some (.int .i64 v.e) ∧ w'.cell? ⟨w.heap.size, 3, none⟩ = some (.string v.s) ∧ w'.cell? ⟨w.heap.size, 4, none⟩ = some (.slice A v.kids.length cap) ∧ w'.cell? ⟨w.heap.size + 1, 0, none⟩ = some (.int .i64 d) ∧ w'.cell? ⟨w.heap.size + 1 + 1, 0, none⟩ = some (.pointer (some ⟨p, 0, none⟩)) ∧ w'.cell? ⟨p, 0, none⟩ = some (.int .i64 ((L : Int) - 1)) ∧ Below w3.heap.size w3 w' := by
    intro w' hb
    obtain ⟨p0, p1, p2, p3, p4⟩ := (HBV.out.below hb lv).five
    exact ⟨p0, p1, p2, p3, p4, (HBD.out.below hb ld).cell 0, (HBL.out.below hb ll).cell 0, (HBP.out.below hb lp).cell 0, hb⟩
  have KE := Lib.hid keep0
  clear keep0
  have hb3 : Below w3.heap.size w3 w3 := Below.refl _ _
  have hL1 : 1 ≤ L := by omega
  by_cases hnode : nodeOk v
  · by_cases hkids : kidsI v
    · have HI := Lib.hid (inV_iff (L := L) (d := d) hL1 (by omega) hnode hkids)
      have HD1 := Lib.hid (decide_eq_true hnode)
      have HD2 := Lib.hid (decide_eq_true hkids)
      clear hnode hkids
      go_region_held3 (fun w' => w'.cell? ⟨w.heap.size, 0, none⟩ = some (.int .i64 v.k) ∧ w'.cell? ⟨w.heap.size, 1, none⟩ = some (.int .i64 v.n) ∧ w'.cell? ⟨w.heap.size, 2, none⟩ = some (.int .i64 v.e) ∧ w'.cell? ⟨w.heap.size, 3, none⟩ = some (.string v.s) ∧ w'.cell? ⟨w.heap.size, 4, none⟩ = some (.slice A v.kids.length cap) ∧ w'.cell? ⟨w.heap.size + 1, 0, none⟩ = some (.int .i64 d) ∧ w'.cell? ⟨w.heap.size + 1 + 1, 0, none⟩ = some (.pointer (some ⟨p, 0, none⟩)) ∧ w'.cell? ⟨p, 0, none⟩ = some (.int .i64 ((L : Int) - 1)) ∧ Below w3.heap.size w3 w') (first | exact KE.out _ hb6 | exact KE.out _ hb5 | exact KE.out _ hb3.drew | exact KE.out _ hb3)
        (first
        | (have hgate := hb5; clear hgate; go_at_call 116; refine (implKids v A cap w5 hnn (Vs.at_more (Nat.le_refl _) (Nat.le_trans (Nat.le_trans hbs hs3) hb5.size) _ _ (Vs.at_below HA.out (HW3.out.trans (hb5.mono (Nat.le_trans hbs hs3))) (Nat.le_refl _)))).mono ?_; rintro e w6 ⟨rfl, hb6'⟩; have hb6 := hb5.trans (hb6'.mono hb5.size); rw [HD2.out])
        | (go_at_call 115; refine (implNode v A cap w3.drew (by omega) (HT.out.below HW3.out.drew)).mono ?_; rintro e w5 ⟨rfl, hb5'⟩; have hb5 : Below w3.heap.size w3 w5 := hb3.drew.trans hb5'; rw [HD1.out]))
      obtain ⟨p0, p1, p2, p3, p4, q0, q1, q2, _⟩ := KE.out _ hb6
      have hb6W : Below W.heap.size W w6 := HW3.out.trans (hb6.mono (Nat.le_trans hbs hs3))
      have HB6 := Lib.hid hb6
      have HB6W := Lib.hid hb6W
      clear KE hb5 hb5' hb6' hb6 hb6W hb3
      go_wp2_with (go_at_call 117; go_in)
      refine (implKids_index v.kids HC.out A cap (L - 1) d p (w.heap.size + 1) (w.heap.size + 1 + 1) W w6 (by omega) (by omega) hd0 (by omega) HT.out HA.out HB6W.out hp (by have h := HBP.out.below HB6.out lp; rw [show (L : Int) - 1 = ((L - 1 : Nat) : Int) by omega] at h; exact h) (HBD.out.below HB6.out ld) (HBL.out.below HB6.out ll) (by omega) (by omega)).mono ?_
      rintro e w7 ⟨r, rfl, h1, h2⟩
      have HK7 := Lib.hid ((keep_below HK3.out HB6.out).trans h2)
      clear h2
      rcases h1 with ⟨hy, rfl, hblk⟩ | ⟨hn, h0⟩
      · have HY := Lib.hid (HI.out.2 hy)
        have HBK := Lib.hid hblk
        clear hy hblk
        go_wp2_with fail
        go_ret
        exact ⟨ret_bool (decide_eq_true HY.out).symm, fun _ => by
          have h := HBK.out
          rw [show L - 1 - Vs.nodes v.kids = L - v.nodes by rw [V.nodes_eq]; omega] at h
          exact h, HK7.out⟩
      · have HN := Lib.hid (fun h => hn (HI.out.1 h))
        clear hn
        go_wp2_with fail
        go_ret
        exact ⟨ret_bool (decide_eq_false HN.out).symm, fun h => absurd h HN.out, HK7.out⟩
    · have HN := Lib.hid (inV_no5 (L := L) (d := d) hkids)
      have HD1 := Lib.hid (decide_eq_true hnode)
      have HD2 := Lib.hid (decide_eq_false hkids)
      clear hnode hkids
      go_region_held3 (fun w' => w'.cell? ⟨w.heap.size, 0, none⟩ = some (.int .i64 v.k) ∧ w'.cell? ⟨w.heap.size, 1, none⟩ = some (.int .i64 v.n) ∧ w'.cell? ⟨w.heap.size, 2, none⟩ = some (.int .i64 v.e) ∧ w'.cell? ⟨w.heap.size, 3, none⟩ = some (.string v.s) ∧ w'.cell? ⟨w.heap.size, 4, none⟩ = some (.slice A v.kids.length cap) ∧ w'.cell? ⟨w.heap.size + 1, 0, none⟩ = some (.int .i64 d) ∧ w'.cell? ⟨w.heap.size + 1 + 1, 0, none⟩ = some (.pointer (some ⟨p, 0, none⟩)) ∧ w'.cell? ⟨p, 0, none⟩ = some (.int .i64 ((L : Int) - 1)) ∧ Below w3.heap.size w3 w') (first | exact KE.out _ hb6 | exact KE.out _ hb5 | exact KE.out _ hb3.drew | exact KE.out _ hb3)
        (first
        | (have hgate := hb5; clear hgate; go_at_call 116; refine (implKids v A cap w5 hnn (Vs.at_more (Nat.le_refl _) (Nat.le_trans (Nat.le_trans hbs hs3) hb5.size) _ _ (Vs.at_below HA.out (HW3.out.trans (hb5.mono (Nat.le_trans hbs hs3))) (Nat.le_refl _)))).mono ?_; rintro e w6 ⟨rfl, hb6'⟩; have hb6 := hb5.trans (hb6'.mono hb5.size); rw [HD2.out])
        | (go_at_call 115; refine (implNode v A cap w3.drew (by omega) (HT.out.below HW3.out.drew)).mono ?_; rintro e w5 ⟨rfl, hb5'⟩; have hb5 : Below w3.heap.size w3 w5 := hb3.drew.trans hb5'; rw [HD1.out]))
      have HB6 := Lib.hid hb6
      clear KE hb5 hb5' hb6' hb6 hb3
      go_wp2_with fail
      go_ret
      exact ⟨ret_bool (decide_eq_false HN.out).symm, fun h => absurd h HN.out, keep_below HK3.out HB6.out⟩
  · have HN := Lib.hid (inV_no4 (L := L) (d := d) hnode)
    have HD1 := Lib.hid (decide_eq_false hnode)
    clear hnode
    go_region_with (go_at_call 115; refine (implNode v A cap w3.drew (by omega) (HT.out.below HW3.out.drew)).mono ?_; rintro e w5 ⟨rfl, hb5'⟩; have hb5 : Below w3.heap.size w3 w5 := hb3.drew.trans hb5'; rw [HD1.out])
    all_goals
      have HB6 := Lib.hid hb5
      clear KE hb5 hb5' hb3
      go_wp2_with fail
      go_ret
      exact ⟨ret_bool (decide_eq_false HN.out).symm, fun h => absurd h HN.out, keep_below HK3.out HB6.out⟩
theorem implVal : ∀ v, ImplValSaid v := V.all implVal_step

set_option maxHeartbeats 1000000 in
theorem implValueOk (v : V) (A : Option Addr) (cap : Nat) (w : World) (hw : v.weight ≤ 1048576) (hT : Tabs w) (hat : Vs.at_ w 0 w.heap.size v.kids A) :
    Calls Tryd.prog 59 #[v.agg A cap] w fun e w' => e = .returned (.bool (decide (okV v))) ∧ Below w.heap.size w w' := by
  have HC := Lib.hid (fun (p : Nat) (w' : World) h1 (h2 : w.heap.size ≤ p) (h3 : Blk w' p 3 #[.int .i64 ((300 : Nat) : Int)]) => implVal v A cap 300 0 p w w' hw (Nat.le_refl _) (Int.le_refl _) (by omega) hT hat h1 h2 h3)
  have HI := Lib.hid (inV_okV v)
  clear hT hat
  unfold V.agg at HC
  unfold V.agg
  go_enter Tryd.func59, Tryd.ntmps59
  go_wp2_with fail
  have hb : Below w.heap.size w ((w.alloc (.cells #[.int .i64 v.k, .int .i64 v.n, .int .i64 v.e, .string v.s, .slice A v.kids.length cap] 34)).alloc (.cells #[.int .i64 300] 3)) := ((Below.refl _ w).alloc (Nat.le_refl _) _).alloc (by simp) _
  have hB := Blk.new (w.alloc (.cells #[.int .i64 v.k, .int .i64 v.n, .int .i64 v.e, .string v.s, .slice A v.kids.length cap] 34)) 3 #[.int .i64 300]
  refine (HC.out (w.heap.size + 1) _ hb (by omega) (by simpa using hB)).mono ?_
  rintro e w1 ⟨rfl, _, hk⟩
  have hb1 := hk.below hb (by simp; omega) (fun k hk => by omega)
  go_wp2_with fail
  go_ret
  exact ⟨ret_bool (decide_eq_decide.2 HI.out), hb1⟩
end Go.Proofs.YtbflkcldjjpioaaDoor
