/-
  The texts on which the last one leans, part 4: DrawC, DrawS, Ctx, PRow, SwapR, ImplLess, ImplCmp, Nodes, Enc, Piece, Sgn, Runes, Right, NumP, Dec, CnP.
-/
import Derived.Test.YtcjamnfboifjeaaDoorPLFnSortedc
import Derived.RegionTactic
import Derived.BigRegion
import Derived.Deep.CutRange
import Derived.Shelf.Abstract
import Derived.StillTailTactics
import Derived.Lib.DecodeN
import Derived.Lib.ValidLaws
import Derived.Lib.ItoaNum
import Derived.Lib.AtoiAllCases
import Derived.Lib.TrimByte
/-
  The draws of FnCompare.
-/
namespace Go.Proofs.YtcjamnfboifjeaaDoor
open Go.RowKit
set_option linter.unusedVariables false
set_option linter.unusedSimpArgs false
set_option maxRecDepth 100000

theorem dAny (b : Nat) (A : Option Addr) (cap : Nat) (code : List UInt8) (w : World) (hc : Cur w b A cap code) :
    Calls Tryd.prog 54 #[.pointer (some ⟨b, 0, none⟩)] w fun e w' => DV 1400 w w b A cap code e w' :=
  dAnyOf (mk_said 3 (Nat.le_refl 3)) b A cap code w hc
/-- What drawing a value hands back. -/
def DrewV (w : World) (e : Ending) (w' : World) : Prop := ∃ (v : V) (B : Option Addr) (c : Nat), e = .returned (v.agg B c) ∧ v.fits ∧ v.weight ≤ 1400 ∧ v.kids.length ≤ c ∧ Vs.at_ w' 0 w'.heap.size v.kids B ∧ Below w.heap.size w w'
theorem dNew1 (A : Option Addr) (cap : Nat) (code : List UInt8) (w : World) (o : Obj) (hat : At1 w w.heap.size A (code.map bv)) (hn : code.length ≤ 1000000000) :
    Calls Tryd.prog 53 #[.slice A code.length cap] (w.alloc o) fun e w' => e = .returned (.pointer (some ⟨w.heap.size + 1, 0, none⟩)) ∧ Cur w' (w.heap.size + 1) A cap code ∧ Below (w.heap.size + 1) (w.alloc o) w' := by
  have hz : (w.alloc o).heap.size = w.heap.size + 1 := by simp
  have h := dNew A cap code (w.alloc o) ((hat.below ((Below.refl w.heap.size w).alloc (Nat.le_refl _) o) (Nat.le_refl _)).more (by omega)) hn
  simp only [hz] at h
  exact h
theorem DrewV.of {w w1 w2 W : World} {b : Nat} {A : Option Addr} {cap : Nat} {code : List UInt8} {v : V} {B : Option Addr} {c : Nat} {F : List Nat} {e : Ending} (he : e = .returned (v.agg B c)) (h1 : v.fits) (h2 : v.weight ≤ 1400) (h3 : v.kids.length ≤ c) (h4 : Vs.lies w2 v.kids B F) (h6 : ∀ x ∈ F, w1.heap.size ≤ x)
    (b1 : Below w.heap.size w w1) (hb : w.heap.size < b) (hz : w.heap.size < w1.heap.size) (h7 : Drawn w1 b A cap code w2) (hg : Gr w.heap.size w2 W) : DrewV w e W :=
  ⟨v, B, c, he, h1, h2, h3, Vs.lies_at (Vs.lies_same h4 ⟨hg.size, fun x hx => hg.block x (lies_lt h4 x hx) (by intro e; injection e with e; have := h6 x hx; omega)⟩) (fun _ _ => Nat.zero_le _),
    (b1.trans (h7.2.toBelow (by omega) b1.size)).trans (hg.toBelow (Nat.le_refl _) (Nat.le_trans b1.size h7.2.size))⟩
set_option maxHeartbeats 4000000 in
theorem drawValueOk (A : Option Addr) (cap : Nat) (code : List UInt8) (w : World) (hat : At1 w w.heap.size A (code.map bv)) (hn : code.length ≤ 1000000000) :
    Calls Tryd.prog 16 #[.slice A code.length cap] w (DrewV w) := by
  have HN := Lib.hid (dNew1 A cap code w (.cells #[.int .i64 0, .int .i64 0, .int .i64 0, .string ⟨#[]⟩, .slice none 0 0] 28) hat hn)
  have B0 := Lib.hid (Blk.new w 28 #[.int .i64 0, .int .i64 0, .int .i64 0, .string ⟨#[]⟩, .slice none 0 0])
  have b0 : Below w.heap.size w (w.alloc (.cells #[.int .i64 0, .int .i64 0, .int .i64 0, .string ⟨#[]⟩, .slice none 0 0] 28)) := (Below.refl _ w).alloc (Nat.le_refl _) _
  have Z0 : Hid ((w.alloc (.cells #[.int .i64 0, .int .i64 0, .int .i64 0, .string ⟨#[]⟩, .slice none 0 0] 28)).heap.size = w.heap.size + 1) := Lib.hid (by simp)
  clear hat
  go_enter Tryd.func16, Tryd.ntmps16
  go_wp2_with fail
  refine HN.out.mono ?_
  rintro e w1 ⟨rfl, hc1, hb1⟩
  have B1 := Lib.hid (B0.out.below hb1 (by omega))
  have b1 := b0.trans (hb1.mono (by omega))
  have hz1 : w.heap.size < w1.heap.size := B1.out.lt
  clear hb1 b0 B0 HN Z0
  go_wp2_with fail
  refine (dAny _ A cap code w1 hc1).mono ?_
  rintro e w2 hdv
  obtain ⟨v, B, c, F, rfl, h1, h2, h3, h4, h5, h6, h7⟩ := hdv.opened
  have B2 := Lib.hid (res_cells B1.out (by omega) h7.2)
  have HR := Lib.hid (fun (W : World) (hg : Gr w.heap.size w2 W) => DrewV.of (e := .returned (v.agg B c)) rfl h1 h2 h3 h4 h6 b1 (by omega) hz1 h7 hg)
  clear h1 h2 h3 h4 h5 h6 h7 hdv B1
  have B9 := B2.out
  obtain ⟨p0, p1, p2, p3, p4⟩ := B9.five
  have f0 := B9.frozen 0
  have f1 := B9.frozen 1
  have f2 := B9.frozen 2
  have f3 := B9.frozen 3
  have f4 := B9.frozen 4
  clear B9
  unfold V.agg
  go_wp2_with fail
  refine bodyPost_ret (v := v.agg B c) (by simp [results, Tryd.results16, go_sem, p0, p1, p2, p3, p4, V.agg]) rfl (HR.out _ ?hd)
  case hd => repeat (first | exact Gr.refl _ _ | (refine Gr.trans ?_ (Gr.set _ _ _ _)))
/-- What drawing two values hands back. -/
def DrewV2 (w : World) (e : Ending) (w' : World) : Prop := ∃ (v u : V) (B C : Option Addr) (c d : Nat), e = .returned (.tuple #[v.agg B c, u.agg C d]) ∧ (v.fits ∧ v.weight ≤ 1400 ∧ v.kids.length ≤ c ∧ Vs.at_ w' w.heap.size w'.heap.size v.kids B) ∧ (u.fits ∧ u.weight ≤ 1400 ∧ u.kids.length ≤ d ∧ Vs.at_ w' w.heap.size w'.heap.size u.kids C) ∧ Below w.heap.size w w'
theorem dNewAt (A : Option Addr) (cap : Nat) (code : List UInt8) (w W : World) (hb : Below w.heap.size w W) (hat : At1 w w.heap.size A (code.map bv)) (hn : code.length ≤ 1000000000) :
    Calls Tryd.prog 53 #[.slice A code.length cap] W fun e w' => e = .returned (.pointer (some ⟨W.heap.size, 0, none⟩)) ∧ Cur w' W.heap.size A cap code ∧ Below W.heap.size W w' :=
  dNew A cap code W ((hat.below hb (Nat.le_refl _)).more hb.size) hn
theorem lies_drawn {w w' : World} {b : Nat} {A : Option Addr} {cap : Nat} {code : List UInt8} {l : List V} {B : Option Addr} {F : List Nat} (h : Vs.lies w l B F) (hF : ∀ x ∈ F, x ≠ b) (hd : Drawn w b A cap code w') : Vs.lies w' l B F :=
  Vs.lies_same h ⟨hd.2.size, fun x hx => hd.2.block x (lies_lt h x hx) (by intro e; injection e with e; exact hF x hx e)⟩
theorem lies_gr {w W : World} {l : List V} {B : Option Addr} {F : List Nat} {r lo : Nat} (h : Vs.lies w l B F) (hF : ∀ x ∈ F, lo ≤ x) (hr : r < lo) (hg : Gr r w W) : Vs.lies W l B F :=
  Vs.lies_same h ⟨hg.size, fun x hx => hg.block x (lies_lt h x hx) (by intro e; injection e with e; have := hF x hx; omega)⟩
/-- No block above r changed. -/
def Far (r : Nat) (w W : World) : Prop := w.heap.size ≤ W.heap.size ∧ ∀ k, r < k → k < w.heap.size → W.heap[k]? = w.heap[k]?
theorem Far.refl (r : Nat) (w : World) : Far r w w := ⟨Nat.le_refl _, fun _ _ _ => rfl⟩
theorem Far.set {r p : Nat} {w W : World} (h : Far r w W) (hp : p ≤ r) (i : Nat) (u : Value) : Far r w (W.setCell ⟨p, i, none⟩ u) :=
  ⟨by simpa using h.1, fun k h1 h2 => (Below.heap_setCell W ⟨p, i, none⟩ u k (show k ≠ p by omega)).trans (h.2 k h1 h2)⟩
theorem lies_far {w W : World} {l : List V} {B : Option Addr} {F : List Nat} {r : Nat} (h : Vs.lies w l B F) (hF : ∀ x ∈ F, r < x) (hf : Far r w W) : Vs.at_ W (r - 1) W.heap.size l B :=
  Vs.lies_at (Vs.lies_same h ⟨hf.1, fun x hx => hf.2 x (hF x hx) (lies_lt h x hx)⟩) (fun x hx => by have := hF x hx; omega)
/-- Five cells stored. -/
def st5 (w : World) (p : Nat) (a b c d e : Value) : World := ((((w.setCell ⟨p, 0, none⟩ a).setCell ⟨p, 1, none⟩ b).setCell ⟨p, 2, none⟩ c).setCell ⟨p, 3, none⟩ d).setCell ⟨p, 4, none⟩ e
theorem st5_blk {w : World} {p : Nat} {t : TypeId} {x0 x1 x2 x3 x4 : Value} (h : Blk w p t #[x0, x1, x2, x3, x4]) (a b c d e : Value) : Blk (st5 w p a b c d e) p t #[a, b, c, d, e] := by
  have h2 := ((((h.set 0 a).set 1 b).set 2 c).set 3 d).set 4 e
  unfold st5
  simpa using h2
theorem st5_gr (w : World) (p : Nat) (a b c d e : Value) : Gr p w (st5 w p a b c d e) := by
  unfold st5
  repeat (first | exact Gr.refl _ _ | (refine Gr.trans ?_ (Gr.set _ _ _ _)))
theorem st5_other {w : World} {p q : Nat} {t : TypeId} {cs : Array Value} (h : Blk w q t cs) (hq : q ≠ p) (a b c d e : Value) : Blk (st5 w p a b c d e) q t cs :=
  ((st5_gr w p a b c d e).block q h.lt (by intro e; injection e with e; exact hq e)).trans h
theorem st5_far {r p : Nat} {w W : World} (h : Far r w W) (hp : p ≤ r) (a b c d e : Value) : Far r w (st5 W p a b c d e) := by
  unfold st5
  exact ((((h.set hp 0 a).set hp 1 b).set hp 2 c).set hp 3 d).set hp 4 e
theorem st5_below {B p : Nat} {w W : World} (h : Below B w W) (hp : B ≤ p) (a b c d e : Value) : Below B w (st5 W p a b c d e) := by
  unfold st5
  exact ((((h.setCell hp a).setCell hp b).setCell hp c).setCell hp d).setCell hp e
set_option maxHeartbeats 4000000 in
theorem drawSame (A : Option Addr) (cap : Nat) (code : List UInt8) (w : World) (hat : At1 w w.heap.size A (code.map bv)) (hn : code.length ≤ 1000000000) :
    Calls Tryd.prog 15 #[.slice A code.length cap] w (DrewV2 w) := by
  have HN := Lib.hid (fun W hb => dNewAt A cap code w W hb hat hn)
  clear hat
  go_enter Tryd.func15, Tryd.ntmps15
  go_wp2_with fail
  obtain ⟨v2, hv2, R0, R1, b0, z0⟩ := two_new w 28 28 #[.int .i64 0, .int .i64 0, .int .i64 0, .string ⟨#[]⟩, .slice none 0 0] #[.int .i64 0, .int .i64 0, .int .i64 0, .string ⟨#[]⟩, .slice none 0 0]
  rw [← hv2]
  clear hv2
  refine (HN.out v2 b0).mono ?_
  rintro e w1 ⟨rfl, hc1, hb1⟩
  have R01 := Lib.hid (R0.below hb1 (by omega))
  have R11 := Lib.hid (R1.below hb1 (by omega))
  have b1 := b0.trans (hb1.mono (by omega))
  have hz1 := hc1.lt
  obtain ⟨b, hb⟩ : ∃ b, b = v2.heap.size := ⟨_, rfl⟩
  rw [← hb] at hc1 hz1 ⊢
  have hbw : w.heap.size + 1 < b := by omega
  clear hb1 b0 R0 R1 HN z0 hb
  go_wp2_with fail
  refine (dAny b A cap code w1 hc1).mono ?_
  rintro e w2 hdv
  obtain ⟨v, B, c, F, rfl, h1, h2, h3, h4, h5, h6, h7⟩ := hdv.opened
  have H1 := Lib.hid h1
  have H4 := Lib.hid h4
  have H6 := Lib.hid h6
  have D2 := Lib.hid h7
  have R02 := Lib.hid (res_cells R01.out (by omega) h7.2)
  have R12 := Lib.hid (res_cells R11.out (by omega) h7.2)
  have hz2 := h7.2.size
  clear h1 h4 h5 h6 h7 hdv R01 R11
  unfold V.agg
  go_wp2_with fail
  refine Calls.atW (fun W => Hid (Blk W w.heap.size 28 #[.int .i64 0, .int .i64 0, .int .i64 0, .string ⟨#[]⟩, .slice none 0 0]) ∧ Hid (Blk W (w.heap.size + 1) 28 #[.int .i64 0, .int .i64 0, .int .i64 0, .string ⟨#[]⟩, .slice none 0 0]) ∧ Hid (Blk W w2.heap.size 28 #[.int .i64 v.k, .int .i64 v.n, .int .i64 v.e, .string v.s, .slice B v.kids.length c]) ∧ Hid (Drawn w1 b A cap code W) ∧ Hid (Vs.lies W v.kids B F)) ⟨Lib.hid (R02.out.alloc _), Lib.hid (R12.out.alloc _), Lib.hid (Blk.new _ _ _), Lib.hid (D2.out.trans (Drawn.alloc D2.out.1 _)), Lib.hid (lies_below H4.out ((Below.refl _ w2).alloc (Nat.le_refl _) _) (lies_lt H4.out))⟩ ?_
  clear R02 R12 D2 H4
  rintro w3 ⟨R03, R13, P3, D3, L3⟩
  refine (dOnce 2 b A cap code w3 (by omega) (by omega) D3.out.1).mono ?_
  rintro e w4 ⟨⟨r, rfl⟩, hd4⟩
  have R04 := Lib.hid (res_cells R03.out (by omega) hd4.2)
  have R14 := Lib.hid (res_cells R13.out (by omega) hd4.2)
  have P4 := Lib.hid (res_cells P3.out (by omega) hd4.2)
  have L4 := Lib.hid (lies_drawn L3.out (fun x hx => by have := H6.out x hx; omega) hd4)
  have D4 := Lib.hid (D3.out.trans hd4)
  have hz4 := D4.out.2.size
  have hp4 : w2.heap.size < w4.heap.size := P4.out.lt
  clear hd4 R03 R13 P3 D3 L3
  cases r with
  | true =>
    have B9 := R04.out
    obtain ⟨p0, p1, p2, p3, p4⟩ := B9.five
    have f0 := B9.frozen 0
    have f1 := B9.frozen 1
    have f2 := B9.frozen 2
    have f3 := B9.frozen 3
    have f4 := B9.frozen 4
    clear B9
    have B9 := R14.out
    obtain ⟨q0, q1, q2, q3, q4⟩ := B9.five
    have g0 := B9.frozen 0
    have g1 := B9.frozen 1
    have g2 := B9.frozen 2
    have g3 := B9.frozen 3
    have g4 := B9.frozen 4
    clear B9
    have B9 := P4.out
    obtain ⟨r0, r1, r2, r3, r4⟩ := B9.five
    clear B9
    have hnd : v.nodes ≤ 1048577 := by have := V.nodes_weight v; omega
    go_upto_region 4 with fail
    go_region_with (first
      | (go_at_call 45
         refine (specCopy v B c _ hnd (Vs.at_drew (Vs.lies_at L4.out (fun _ _ => Nat.zero_le _)))).mono ?_
         rintro e w5 ⟨A2, c2, F2, rfl, g3, g4, g5, g6, hb5⟩
         have R05 := Lib.hid ((show Blk w4.drew _ _ _ from R04.out).below hb5 (by show _ < w4.heap.size; omega))
         have R15 := Lib.hid ((show Blk w4.drew _ _ _ from R14.out).below hb5 (by show _ < w4.heap.size; omega))
         have P5 := Lib.hid ((show Blk w4.drew _ _ _ from P4.out).below hb5 (by show _ < w4.heap.size; omega))
         have HRES := Lib.hid (fun (W : World) (hf : Far (w.heap.size + 1) w5 W) (hd : Below w.heap.size w5 W) => (⟨v, v, B, A2, c, c2, rfl, ⟨H1.out, h2, h3, lies_far (lies_below L4.out ((show Below w4.heap.size w4 w4.drew from (Below.refl _ w4).drew).trans hb5) (lies_lt L4.out)) (fun x hx => by have := H6.out x hx; omega) hf⟩, ⟨H1.out, h2, g3, lies_far g4 (fun x hx => by have h := g6 x hx; have h' : w4.heap.size ≤ x := h; omega) hf⟩, ((D4.out.toBelow b1 (by omega)).trans ((Below.refl w.heap.size w4).drew.trans (hb5.mono (by show w.heap.size ≤ w4.heap.size; omega)))).trans hd⟩ : DrewV2 w (.returned (.tuple #[v.agg B c, v.agg A2 c2])) W))
         clear g4 g5 g6 hb5
         obtain ⟨s0, s1, s2, s3, s4⟩ := P5.out.five
         obtain ⟨t0, t1, t2, t3, t4⟩ := R05.out.five
         have k0 := R05.out.frozen 0
         have k1 := R05.out.frozen 1
         have k2 := R05.out.frozen 2
         have k3 := R05.out.frozen 3
         have k4 := R05.out.frozen 4
         obtain ⟨u0, u1, u2, u3, u4⟩ := R15.out.five
         have l0 := R15.out.frozen 0
         have l1 := R15.out.frozen 1
         have l2 := R15.out.frozen 2
         have l3 := R15.out.frozen 3
         have l4 := R15.out.frozen 4
         unfold V.agg))
    all_goals
      obtain ⟨W, hW⟩ : ∃ W, W = st5 (st5 w5 w.heap.size (.int .i64 v.k) (.int .i64 v.n) (.int .i64 v.e) (.string v.s) (.slice B v.kids.length c)) (w.heap.size + 1) (.int .i64 v.k) (.int .i64 v.n) (.int .i64 v.e) (.string v.s) (.slice A2 v.kids.length c2) := ⟨_, rfl⟩
      have X0 : Blk W w.heap.size 28 #[.int .i64 v.k, .int .i64 v.n, .int .i64 v.e, .string v.s, .slice B v.kids.length c] := by rw [hW]; exact st5_other (st5_blk R05.out _ _ _ _ _) (by omega) _ _ _ _ _
      have X1 : Blk W (w.heap.size + 1) 28 #[.int .i64 v.k, .int .i64 v.n, .int .i64 v.e, .string v.s, .slice A2 v.kids.length c2] := by rw [hW]; exact st5_blk (st5_other R15.out (by omega) _ _ _ _ _) _ _ _ _ _
      have HD := Lib.hid (HRES.out W (by rw [hW]; exact st5_far (st5_far (Far.refl _ _) (by omega) _ _ _ _ _) (Nat.le_refl _) _ _ _ _ _) (by rw [hW]; exact st5_below (st5_below (Below.refl _ _) (Nat.le_refl _) _ _ _ _ _) (by omega) _ _ _ _ _))
      unfold st5 at hW
      rw [← hW]
      clear hW HRES k0 k1 k2 k3 k4 l0 l1 l2 l3 l4 s0 s1 s2 s3 s4 t0 t1 t2 t3 t4 u0 u1 u2 u3 u4
      obtain ⟨t0, t1, t2, t3, t4⟩ := X0.five
      obtain ⟨u0, u1, u2, u3, u4⟩ := X1.five
      go_wp2_with fail
      refine bodyPost_ret (v := .tuple #[v.agg B c, v.agg A2 c2]) (by simp [results, Tryd.results15, go_sem, t0, t1, t2, t3, t4, u0, u1, u2, u3, u4, V.agg]) rfl HD.out
  | false =>
    have B9 := R04.out
    obtain ⟨p0, p1, p2, p3, p4⟩ := B9.five
    have f0 := B9.frozen 0
    have f1 := B9.frozen 1
    have f2 := B9.frozen 2
    have f3 := B9.frozen 3
    have f4 := B9.frozen 4
    clear B9
    have B9 := R14.out
    obtain ⟨q0, q1, q2, q3, q4⟩ := B9.five
    have g0 := B9.frozen 0
    have g1 := B9.frozen 1
    have g2 := B9.frozen 2
    have g3 := B9.frozen 3
    have g4 := B9.frozen 4
    clear B9
    have B9 := P4.out
    obtain ⟨r0, r1, r2, r3, r4⟩ := B9.five
    clear B9
    go_upto_region 5 with fail
    have HMD := Lib.hid (D4.out.1.drew)
    go_region_with (first
      | (go_at_call 54
         refine (dAny b A cap code _ HMD.out).mono ?_
         rintro e w5 hdv
         obtain ⟨u, C, d, F2, rfl, g1, g2, g3, g4, g5, g6, g7⟩ := hdv.opened
         have hd5 := Drawn.undrew g7
         have R05 := Lib.hid (res_cells R04.out (by omega) hd5.2)
         have R15 := Lib.hid (res_cells R14.out (by omega) hd5.2)
         have P5 := Lib.hid (res_cells P4.out (by omega) hd5.2)
         have HRES := Lib.hid (fun (W : World) (hf : Far (w.heap.size + 1) w5 W) (hd : Below w.heap.size w5 W) => (⟨v, u, B, C, c, d, rfl, ⟨H1.out, h2, h3, lies_far (lies_drawn L4.out (fun x hx => by have := H6.out x hx; omega) hd5) (fun x hx => by have := H6.out x hx; omega) hf⟩, ⟨g1, g2, g3, lies_far g4 (fun x hx => by have h := g6 x hx; have h' : w4.heap.size ≤ x := h; omega) hf⟩, ((D4.out.trans hd5).toBelow b1 (by omega)).trans hd⟩ : DrewV2 w (.returned (.tuple #[v.agg B c, u.agg C d])) W))
         clear g1 g4 g5 g6 g7 hdv
         have hz5 := hd5.2.size
         clear hd5
         obtain ⟨s0, s1, s2, s3, s4⟩ := P5.out.five
         obtain ⟨t0, t1, t2, t3, t4⟩ := R05.out.five
         have k0 := R05.out.frozen 0
         have k1 := R05.out.frozen 1
         have k2 := R05.out.frozen 2
         have k3 := R05.out.frozen 3
         have k4 := R05.out.frozen 4
         obtain ⟨u0, u1, u2, u3, u4⟩ := R15.out.five
         have l0 := R15.out.frozen 0
         have l1 := R15.out.frozen 1
         have l2 := R15.out.frozen 2
         have l3 := R15.out.frozen 3
         have l4 := R15.out.frozen 4
         unfold V.agg))
    all_goals
      obtain ⟨W, hW⟩ : ∃ W, W = st5 (st5 w5 w.heap.size (.int .i64 v.k) (.int .i64 v.n) (.int .i64 v.e) (.string v.s) (.slice B v.kids.length c)) (w.heap.size + 1) (.int .i64 u.k) (.int .i64 u.n) (.int .i64 u.e) (.string u.s) (.slice C u.kids.length d) := ⟨_, rfl⟩
      have X0 : Blk W w.heap.size 28 #[.int .i64 v.k, .int .i64 v.n, .int .i64 v.e, .string v.s, .slice B v.kids.length c] := by rw [hW]; exact st5_other (st5_blk R05.out _ _ _ _ _) (by omega) _ _ _ _ _
      have X1 : Blk W (w.heap.size + 1) 28 #[.int .i64 u.k, .int .i64 u.n, .int .i64 u.e, .string u.s, .slice C u.kids.length d] := by rw [hW]; exact st5_blk (st5_other R15.out (by omega) _ _ _ _ _) _ _ _ _ _
      have HD := Lib.hid (HRES.out W (by rw [hW]; exact st5_far (st5_far (Far.refl _ _) (by omega) _ _ _ _ _) (Nat.le_refl _) _ _ _ _ _) (by rw [hW]; exact st5_below (st5_below (Below.refl _ _) (Nat.le_refl _) _ _ _ _ _) (by omega) _ _ _ _ _))
      unfold st5 at hW
      rw [← hW]
      clear hW HRES k0 k1 k2 k3 k4 l0 l1 l2 l3 l4 s0 s1 s2 s3 s4 t0 t1 t2 t3 t4 u0 u1 u2 u3 u4
      obtain ⟨t0, t1, t2, t3, t4⟩ := X0.five
      obtain ⟨u0, u1, u2, u3, u4⟩ := X1.five
      go_wp2_with fail
      refine bodyPost_ret (v := .tuple #[v.agg B c, u.agg C d]) (by simp [results, Tryd.results15, go_sem, t0, t1, t2, t3, t4, u0, u1, u2, u3, u4, V.agg]) rfl HD.out
theorem st5_at {w : World} {p lo hi : Nat} {l : List V} {A : Option Addr} (h : Vs.at_ w lo hi l A) (hp : p < lo) (a b c d e : Value) : Vs.at_ (st5 w p a b c d e) lo hi l A := by
  unfold st5
  exact Vs.at_set (Vs.at_set (Vs.at_set (Vs.at_set (Vs.at_set h (.inl hp)) (.inl hp)) (.inl hp)) (.inl hp)) (.inl hp)
set_option maxHeartbeats 4000000 in
theorem drawCompare (A : Option Addr) (cap : Nat) (code : List UInt8) (w : World) (hat : At1 w w.heap.size A (code.map bv)) (hn : code.length ≤ 1000000000) :
    Calls Tryd.prog 14 #[.slice A code.length cap] w (DrewV2 w) := by
  have HN := Lib.hid (fun W hb => drawSame A cap code W ((hat.below hb (Nat.le_refl w.heap.size)).more (Below.size hb)) hn)
  clear hat
  go_enter Tryd.func14, Tryd.ntmps14
  go_wp2_with fail
  obtain ⟨v2, hv2, R0, R1, b0, z0⟩ := two_new w 28 28 #[.int .i64 0, .int .i64 0, .int .i64 0, .string ⟨#[]⟩, .slice none 0 0] #[.int .i64 0, .int .i64 0, .int .i64 0, .string ⟨#[]⟩, .slice none 0 0]
  rw [← hv2]
  clear hv2
  refine (HN.out v2 b0).mono ?_
  rintro e w5 ⟨v, u, B, C, c, d, rfl, ⟨g1, g2, g3, g4⟩, ⟨h1, h2, h3, h4⟩, hb5⟩
  have R05 := R0.below hb5 (by omega)
  have R15 := R1.below hb5 (by omega)
  have hz5 := hb5.size
  obtain ⟨W, hW⟩ : ∃ W, W = st5 (st5 w5 w.heap.size (.int .i64 v.k) (.int .i64 v.n) (.int .i64 v.e) (.string v.s) (.slice B v.kids.length c)) (w.heap.size + 1) (.int .i64 u.k) (.int .i64 u.n) (.int .i64 u.e) (.string u.s) (.slice C u.kids.length d) := ⟨_, rfl⟩
  have X0 : Blk W w.heap.size 28 #[.int .i64 v.k, .int .i64 v.n, .int .i64 v.e, .string v.s, .slice B v.kids.length c] := by rw [hW]; exact st5_other (st5_blk R05 _ _ _ _ _) (by omega) _ _ _ _ _
  have X1 : Blk W (w.heap.size + 1) 28 #[.int .i64 u.k, .int .i64 u.n, .int .i64 u.e, .string u.s, .slice C u.kids.length d] := by rw [hW]; exact st5_blk (st5_other R15 (by omega) _ _ _ _ _) _ _ _ _ _
  have hsz : W.heap.size = w5.heap.size := by rw [hW]; unfold st5; simp
  have y1 : Vs.at_ W w.heap.size W.heap.size v.kids B := by rw [hsz, hW]; exact Vs.at_more (by omega) (Nat.le_refl _) _ _ (st5_at (st5_at g4 (by omega) _ _ _ _ _) (by omega) _ _ _ _ _)
  have y2 : Vs.at_ W w.heap.size W.heap.size u.kids C := by rw [hsz, hW]; exact Vs.at_more (by omega) (Nat.le_refl _) _ _ (st5_at (st5_at h4 (by omega) _ _ _ _ _) (by omega) _ _ _ _ _)
  have HD : Hid (DrewV2 w (.returned (.tuple #[v.agg B c, u.agg C d])) W) := Lib.hid ⟨v, u, B, C, c, d, rfl, ⟨g1, g2, g3, y1⟩, ⟨h1, h2, h3, y2⟩, by rw [hW]; exact st5_below (st5_below (b0.trans (hb5.mono (by omega))) (Nat.le_refl _) _ _ _ _ _) (by omega) _ _ _ _ _⟩
  obtain ⟨t0, t1, t2, t3, t4⟩ := R05.five
  have k0 := R05.frozen 0
  have k1 := R05.frozen 1
  have k2 := R05.frozen 2
  have k3 := R05.frozen 3
  have k4 := R05.frozen 4
  obtain ⟨u0, u1, u2, u3, u4⟩ := R15.five
  have l0 := R15.frozen 0
  have l1 := R15.frozen 1
  have l2 := R15.frozen 2
  have l3 := R15.frozen 3
  have l4 := R15.frozen 4
  have HW := Lib.hid hW
  have HX0 := Lib.hid X0
  have HX1 := Lib.hid X1
  clear hW X0 X1 hsz y1 y2 g1 g2 g3 g4 h1 h2 h3 h4 R05 R15 R0 R1 HN hb5 b0
  unfold V.agg
  go_upto_region 1 with fail
  have hW := HW.out
  unfold st5 at hW
  rw [← hW]
  clear hW HW k0 k1 k2 k3 k4 l0 l1 l2 l3 l4 t0 t1 t2 t3 t4 u0 u1 u2 u3 u4
  obtain ⟨t0, t1, t2, t3, t4⟩ := HX0.out.five
  obtain ⟨u0, u1, u2, u3, u4⟩ := HX1.out.five
  refine bodyPost_ret (v := .tuple #[v.agg B c, u.agg C d]) (by simp [results, Tryd.results14, go_sem, t0, t1, t2, t3, t4, u0, u1, u2, u3, u4, V.agg]) rfl HD.out
end Go.Proofs.YtcjamnfboifjeaaDoor

/-
  The draws of FnSorted.
-/
namespace Go.Proofs.YtcjamnfboifjeaaDoor
open Go.RowKit
set_option linter.unusedVariables false
set_option linter.unusedSimpArgs false
set_option maxRecDepth 100000

set_option maxHeartbeats 4000000 in
theorem drawSorted (A : Option Addr) (cap : Nat) (code : List UInt8) (w : World) (hat : At1 w w.heap.size A (code.map bv)) (hn : code.length ≤ 1000000000) :
    Calls Tryd.prog 24 #[.slice A code.length cap] w (DrewV w) := by
  have HN := Lib.hid (dNew1 A cap code w (.cells #[.int .i64 0, .int .i64 0, .int .i64 0, .string ⟨#[]⟩, .slice none 0 0] 28) hat hn)
  have B0 := Lib.hid (Blk.new w 28 #[.int .i64 0, .int .i64 0, .int .i64 0, .string ⟨#[]⟩, .slice none 0 0])
  have b0 : Below w.heap.size w (w.alloc (.cells #[.int .i64 0, .int .i64 0, .int .i64 0, .string ⟨#[]⟩, .slice none 0 0] 28)) := (Below.refl _ w).alloc (Nat.le_refl _) _
  have Z0 : Hid ((w.alloc (.cells #[.int .i64 0, .int .i64 0, .int .i64 0, .string ⟨#[]⟩, .slice none 0 0] 28)).heap.size = w.heap.size + 1) := Lib.hid (by simp)
  clear hat
  go_enter Tryd.func24, Tryd.ntmps24
  go_wp2_with fail
  refine HN.out.mono ?_
  rintro e w1 ⟨rfl, hc1, hb1⟩
  have B1 := Lib.hid (B0.out.below hb1 (by omega))
  have b1 := b0.trans (hb1.mono (by omega))
  have hz1 : w.heap.size < w1.heap.size := B1.out.lt
  clear hb1 b0 B0 HN Z0
  go_wp2_with fail
  refine (dAny _ A cap code w1 hc1).mono ?_
  rintro e w2 hdv
  obtain ⟨v, B, c, F, rfl, h1, h2, h3, h4, h5, h6, h7⟩ := hdv.opened
  have B2 := Lib.hid (res_cells B1.out (by omega) h7.2)
  have HR := Lib.hid (fun (W : World) (hg : Gr w.heap.size w2 W) => DrewV.of (e := .returned (v.agg B c)) rfl h1 h2 h3 h4 h6 b1 (by omega) hz1 h7 hg)
  clear h1 h2 h3 h4 h5 h6 h7 hdv B1
  have B9 := B2.out
  obtain ⟨p0, p1, p2, p3, p4⟩ := B9.five
  have f0 := B9.frozen 0
  have f1 := B9.frozen 1
  have f2 := B9.frozen 2
  have f3 := B9.frozen 3
  have f4 := B9.frozen 4
  clear B9
  unfold V.agg
  go_wp2_with fail
  refine bodyPost_ret (v := v.agg B c) (by simp [results, Tryd.results24, go_sem, p0, p1, p2, p3, p4, V.agg]) rfl (HR.out _ ?hd)
  case hd => repeat (first | exact Gr.refl _ _ | (refine Gr.trans ?_ (Gr.set _ _ _ _)))
set_option maxHeartbeats 4000000 in
theorem drawNodes (A : Option Addr) (cap : Nat) (code : List UInt8) (w : World) (hat : At1 w w.heap.size A (code.map bv)) (hn : code.length ≤ 1000000000) :
    Calls Tryd.prog 25 #[.slice A code.length cap] w (DrewV w) := by
  have HN := Lib.hid (dNew1 A cap code w (.cells #[.int .i64 0, .int .i64 0, .int .i64 0, .string ⟨#[]⟩, .slice none 0 0] 28) hat hn)
  have B0 := Lib.hid (Blk.new w 28 #[.int .i64 0, .int .i64 0, .int .i64 0, .string ⟨#[]⟩, .slice none 0 0])
  have b0 : Below w.heap.size w (w.alloc (.cells #[.int .i64 0, .int .i64 0, .int .i64 0, .string ⟨#[]⟩, .slice none 0 0] 28)) := (Below.refl _ w).alloc (Nat.le_refl _) _
  have Z0 : Hid ((w.alloc (.cells #[.int .i64 0, .int .i64 0, .int .i64 0, .string ⟨#[]⟩, .slice none 0 0] 28)).heap.size = w.heap.size + 1) := Lib.hid (by simp)
  clear hat
  go_enter Tryd.func25, Tryd.ntmps25
  go_wp2_with fail
  refine HN.out.mono ?_
  rintro e w1 ⟨rfl, hc1, hb1⟩
  have B1 := Lib.hid (B0.out.below hb1 (by omega))
  have b1 := b0.trans (hb1.mono (by omega))
  have hz1 : w.heap.size < w1.heap.size := B1.out.lt
  clear hb1 b0 B0 HN Z0
  go_wp2_with fail
  refine (dAny _ A cap code w1 hc1).mono ?_
  rintro e w2 hdv
  obtain ⟨v, B, c, F, rfl, h1, h2, h3, h4, h5, h6, h7⟩ := hdv.opened
  have B2 := Lib.hid (res_cells B1.out (by omega) h7.2)
  have HR := Lib.hid (fun (W : World) (hg : Gr w.heap.size w2 W) => DrewV.of (e := .returned (v.agg B c)) rfl h1 h2 h3 h4 h6 b1 (by omega) hz1 h7 hg)
  clear h1 h2 h3 h4 h5 h6 h7 hdv B1
  have B9 := B2.out
  obtain ⟨p0, p1, p2, p3, p4⟩ := B9.five
  have f0 := B9.frozen 0
  have f1 := B9.frozen 1
  have f2 := B9.frozen 2
  have f3 := B9.frozen 3
  have f4 := B9.frozen 4
  clear B9
  unfold V.agg
  go_wp2_with fail
  refine bodyPost_ret (v := v.agg B c) (by simp [results, Tryd.results25, go_sem, p0, p1, p2, p3, p4, V.agg]) rfl (HR.out _ ?hd)
  case hd => repeat (first | exact Gr.refl _ _ | (refine Gr.trans ?_ (Gr.set _ _ _ _)))
set_option maxHeartbeats 4000000 in
theorem drawDeep (A : Option Addr) (cap : Nat) (code : List UInt8) (w : World) (hat : At1 w w.heap.size A (code.map bv)) (hn : code.length ≤ 1000000000) :
    Calls Tryd.prog 26 #[.slice A code.length cap] w (DrewV w) := by
  have HN := Lib.hid (dNew1 A cap code w (.cells #[.int .i64 0, .int .i64 0, .int .i64 0, .string ⟨#[]⟩, .slice none 0 0] 28) hat hn)
  have B0 := Lib.hid (Blk.new w 28 #[.int .i64 0, .int .i64 0, .int .i64 0, .string ⟨#[]⟩, .slice none 0 0])
  have b0 : Below w.heap.size w (w.alloc (.cells #[.int .i64 0, .int .i64 0, .int .i64 0, .string ⟨#[]⟩, .slice none 0 0] 28)) := (Below.refl _ w).alloc (Nat.le_refl _) _
  have Z0 : Hid ((w.alloc (.cells #[.int .i64 0, .int .i64 0, .int .i64 0, .string ⟨#[]⟩, .slice none 0 0] 28)).heap.size = w.heap.size + 1) := Lib.hid (by simp)
  clear hat
  go_enter Tryd.func26, Tryd.ntmps26
  go_wp2_with fail
  refine HN.out.mono ?_
  rintro e w1 ⟨rfl, hc1, hb1⟩
  have B1 := Lib.hid (B0.out.below hb1 (by omega))
  have b1 := b0.trans (hb1.mono (by omega))
  have hz1 : w.heap.size < w1.heap.size := B1.out.lt
  clear hb1 b0 B0 HN Z0
  go_wp2_with fail
  refine (dAny _ A cap code w1 hc1).mono ?_
  rintro e w2 hdv
  obtain ⟨v, B, c, F, rfl, h1, h2, h3, h4, h5, h6, h7⟩ := hdv.opened
  have B2 := Lib.hid (res_cells B1.out (by omega) h7.2)
  have HR := Lib.hid (fun (W : World) (hg : Gr w.heap.size w2 W) => DrewV.of (e := .returned (v.agg B c)) rfl h1 h2 h3 h4 h6 b1 (by omega) hz1 h7 hg)
  clear h1 h2 h3 h4 h5 h6 h7 hdv B1
  have B9 := B2.out
  obtain ⟨p0, p1, p2, p3, p4⟩ := B9.five
  have f0 := B9.frozen 0
  have f1 := B9.frozen 1
  have f2 := B9.frozen 2
  have f3 := B9.frozen 3
  have f4 := B9.frozen 4
  clear B9
  unfold V.agg
  go_wp2_with fail
  refine bodyPost_ret (v := v.agg B c) (by simp [results, Tryd.results26, go_sem, p0, p1, p2, p3, p4, V.agg]) rfl (HR.out _ ?hd)
  case hd => repeat (first | exact Gr.refl _ _ | (refine Gr.trans ?_ (Gr.set _ _ _ _)))
set_option maxHeartbeats 4000000 in
theorem drawKeys (A : Option Addr) (cap : Nat) (code : List UInt8) (w : World) (hat : At1 w w.heap.size A (code.map bv)) (hn : code.length ≤ 1000000000) :
    Calls Tryd.prog 30 #[.slice A code.length cap] w (DrewV w) := by
  have HN := Lib.hid (dNew1 A cap code w (.cells #[.int .i64 0, .int .i64 0, .int .i64 0, .string ⟨#[]⟩, .slice none 0 0] 28) hat hn)
  have B0 := Lib.hid (Blk.new w 28 #[.int .i64 0, .int .i64 0, .int .i64 0, .string ⟨#[]⟩, .slice none 0 0])
  have b0 : Below w.heap.size w (w.alloc (.cells #[.int .i64 0, .int .i64 0, .int .i64 0, .string ⟨#[]⟩, .slice none 0 0] 28)) := (Below.refl _ w).alloc (Nat.le_refl _) _
  have Z0 : Hid ((w.alloc (.cells #[.int .i64 0, .int .i64 0, .int .i64 0, .string ⟨#[]⟩, .slice none 0 0] 28)).heap.size = w.heap.size + 1) := Lib.hid (by simp)
  clear hat
  go_enter Tryd.func30, Tryd.ntmps30
  go_wp2_with fail
  refine HN.out.mono ?_
  rintro e w1 ⟨rfl, hc1, hb1⟩
  have B1 := Lib.hid (B0.out.below hb1 (by omega))
  have b1 := b0.trans (hb1.mono (by omega))
  have hz1 : w.heap.size < w1.heap.size := B1.out.lt
  clear hb1 b0 B0 HN Z0
  go_wp2_with fail
  refine (dAny _ A cap code w1 hc1).mono ?_
  rintro e w2 hdv
  obtain ⟨v, B, c, F, rfl, h1, h2, h3, h4, h5, h6, h7⟩ := hdv.opened
  have B2 := Lib.hid (res_cells B1.out (by omega) h7.2)
  have HR := Lib.hid (fun (W : World) (hg : Gr w.heap.size w2 W) => DrewV.of (e := .returned (v.agg B c)) rfl h1 h2 h3 h4 h6 b1 (by omega) hz1 h7 hg)
  clear h1 h2 h3 h4 h5 h6 h7 hdv B1
  have B9 := B2.out
  obtain ⟨p0, p1, p2, p3, p4⟩ := B9.five
  have f0 := B9.frozen 0
  have f1 := B9.frozen 1
  have f2 := B9.frozen 2
  have f3 := B9.frozen 3
  have f4 := B9.frozen 4
  clear B9
  unfold V.agg
  go_wp2_with fail
  refine bodyPost_ret (v := v.agg B c) (by simp [results, Tryd.results30, go_sem, p0, p1, p2, p3, p4, V.agg]) rfl (HR.out _ ?hd)
  case hd => repeat (first | exact Gr.refl _ _ | (refine Gr.trans ?_ (Gr.set _ _ _ _)))
set_option maxHeartbeats 4000000 in
theorem drawStrings (A : Option Addr) (cap : Nat) (code : List UInt8) (w : World) (hat : At1 w w.heap.size A (code.map bv)) (hn : code.length ≤ 1000000000) :
    Calls Tryd.prog 32 #[.slice A code.length cap] w (DrewV w) := by
  have HN := Lib.hid (dNew1 A cap code w (.cells #[.int .i64 0, .int .i64 0, .int .i64 0, .string ⟨#[]⟩, .slice none 0 0] 28) hat hn)
  have B0 := Lib.hid (Blk.new w 28 #[.int .i64 0, .int .i64 0, .int .i64 0, .string ⟨#[]⟩, .slice none 0 0])
  have b0 : Below w.heap.size w (w.alloc (.cells #[.int .i64 0, .int .i64 0, .int .i64 0, .string ⟨#[]⟩, .slice none 0 0] 28)) := (Below.refl _ w).alloc (Nat.le_refl _) _
  have Z0 : Hid ((w.alloc (.cells #[.int .i64 0, .int .i64 0, .int .i64 0, .string ⟨#[]⟩, .slice none 0 0] 28)).heap.size = w.heap.size + 1) := Lib.hid (by simp)
  clear hat
  go_enter Tryd.func32, Tryd.ntmps32
  go_wp2_with fail
  refine HN.out.mono ?_
  rintro e w1 ⟨rfl, hc1, hb1⟩
  have B1 := Lib.hid (B0.out.below hb1 (by omega))
  have b1 := b0.trans (hb1.mono (by omega))
  have hz1 : w.heap.size < w1.heap.size := B1.out.lt
  clear hb1 b0 B0 HN Z0
  go_wp2_with fail
  refine (dAny _ A cap code w1 hc1).mono ?_
  rintro e w2 hdv
  obtain ⟨v, B, c, F, rfl, h1, h2, h3, h4, h5, h6, h7⟩ := hdv.opened
  have B2 := Lib.hid (res_cells B1.out (by omega) h7.2)
  have HR := Lib.hid (fun (W : World) (hg : Gr w.heap.size w2 W) => DrewV.of (e := .returned (v.agg B c)) rfl h1 h2 h3 h4 h6 b1 (by omega) hz1 h7 hg)
  clear h1 h2 h3 h4 h5 h6 h7 hdv B1
  have B9 := B2.out
  obtain ⟨p0, p1, p2, p3, p4⟩ := B9.five
  have f0 := B9.frozen 0
  have f1 := B9.frozen 1
  have f2 := B9.frozen 2
  have f3 := B9.frozen 3
  have f4 := B9.frozen 4
  clear B9
  unfold V.agg
  go_wp2_with fail
  refine bodyPost_ret (v := v.agg B c) (by simp [results, Tryd.results32, go_sem, p0, p1, p2, p3, p4, V.agg]) rfl (HR.out _ ?hd)
  case hd => repeat (first | exact Gr.refl _ _ | (refine Gr.trans ?_ (Gr.set _ _ _ _)))
def DrewF (v : V) (B : Option Addr) (c : Nat) (w W : World) : Prop := v.fits ∧ v.weight ≤ 1400 ∧ v.kids.length ≤ c ∧ Vs.at_ W 0 W.heap.size v.kids B ∧ Below w.heap.size w W
theorem DrewF.of {w w1 w2 W : World} {b : Nat} {A : Option Addr} {cap : Nat} {code : List UInt8} {v : V} {B : Option Addr} {c : Nat} {F : List Nat} (h1 : v.fits) (h2 : v.weight ≤ 1400) (h3 : v.kids.length ≤ c) (h4 : Vs.lies w2 v.kids B F) (h6 : ∀ x ∈ F, w1.heap.size ≤ x)
    (b1 : Below w.heap.size w w1) (hb : w.heap.size < b) (hz : w.heap.size < w1.heap.size) (h7 : Drawn w1 b A cap code w2) (hg : Gr w.heap.size w2 W) : DrewF v B c w W :=
  ⟨h1, h2, h3, Vs.lies_at (Vs.lies_same h4 ⟨hg.size, fun x hx => hg.block x (lies_lt h4 x hx) (by intro e; injection e with e; have := h6 x hx; omega)⟩) (fun _ _ => Nat.zero_le _),
    (b1.trans (h7.2.toBelow (by omega) b1.size)).trans (hg.toBelow (Nat.le_refl _) (Nat.le_trans b1.size h7.2.size))⟩
def keyL : List ByteArray := [⟨#[110, 97, 109, 101]⟩, ⟨#[105, 100]⟩, ⟨#[108, 105, 115, 116]⟩, ⟨#[99, 111, 109, 109, 111, 110, 32, 107, 101, 121]⟩, ⟨#[]⟩, ⟨#[97]⟩]
theorem keyL_size : ∀ s ∈ keyL, s.size ≤ 10 := by decide
set_option maxHeartbeats 4000000 in
theorem drawField (A : Option Addr) (cap : Nat) (code : List UInt8) (w : World) (hat : At1 w w.heap.size A (code.map bv)) (hn : code.length ≤ 1000000000) :
    Calls Tryd.prog 27 #[.slice A code.length cap] w fun e w' => ∃ v B c t, e = .returned (.tuple #[v.agg B c, .string t]) ∧ t.size ≤ 10 ∧ DrewF v B c w w' := by
  have HN := Lib.hid (dNew1 A cap code w (.cells #[.int .i64 0, .int .i64 0, .int .i64 0, .string ⟨#[]⟩, .slice none 0 0] 28) hat hn)
  have B0 := Lib.hid (Blk.new w 28 #[.int .i64 0, .int .i64 0, .int .i64 0, .string ⟨#[]⟩, .slice none 0 0])
  have b0 : Below w.heap.size w (w.alloc (.cells #[.int .i64 0, .int .i64 0, .int .i64 0, .string ⟨#[]⟩, .slice none 0 0] 28)) := (Below.refl _ w).alloc (Nat.le_refl _) _
  have Z0 : Hid ((w.alloc (.cells #[.int .i64 0, .int .i64 0, .int .i64 0, .string ⟨#[]⟩, .slice none 0 0] 28)).heap.size = w.heap.size + 1) := Lib.hid (by simp)
  clear hat
  go_enter Tryd.func27, Tryd.ntmps27
  go_wp2_with fail
  refine HN.out.mono ?_
  rintro e w1 ⟨rfl, hc1, hb1⟩
  have B1 := Lib.hid (B0.out.below hb1 (by omega))
  have b1 := b0.trans (hb1.mono (by omega))
  have hz1 : w.heap.size < w1.heap.size := B1.out.lt
  clear hb1 b0 B0 HN Z0
  go_wp2_with fail
  refine (dAny _ A cap code w1 hc1).mono ?_
  rintro e w2 hdv
  obtain ⟨v, B, c, F, rfl, h1, h2, h3, h4, h5, h6, h7⟩ := hdv.opened
  have H4 := Lib.hid h4
  have H6 := Lib.hid h6
  have H7 := Lib.hid h7
  have H1 := Lib.hid h1
  have HB1 := Lib.hid b1
  clear h1 h4 h5 h6 h7 hdv
  unfold V.agg
  go_wp2_with fail
  refine (dPickNew keyL _ A cap code w2 (by decide) (by decide) H7.out.1).mono ?_
  rintro e w3 ⟨⟨t, ht, rfl⟩, hd3⟩
  have D3 := Lib.hid (H7.out.trans hd3)
  have L3 := Lib.hid (lies_drawn H4.out (fun x hx => by have := H6.out x hx; have := hc1.lt; omega) hd3)
  have B2 := Lib.hid (res_cells B1.out (by omega) D3.out.2)
  have HR := Lib.hid (fun (W : World) (hg : Gr w.heap.size w3 W) => DrewF.of H1.out h2 h3 L3.out H6.out HB1.out (by omega) hz1 D3.out hg)
  clear B1 hd3 L3 D3 H4 H6 H7 H1 HB1
  have B9 := B2.out
  obtain ⟨p0, p1, p2, p3, p4⟩ := B9.five
  have f0 := B9.frozen 0
  have f1 := B9.frozen 1
  have f2 := B9.frozen 2
  have f3 := B9.frozen 3
  have f4 := B9.frozen 4
  clear B9
  go_wp2_with fail
  refine bodyPost_ret (v := .tuple #[v.agg B c, .string t]) (by simp [results, Tryd.results27, go_sem, p0, p1, p2, p3, p4, V.agg]) rfl ⟨v, B, c, t, rfl, keyL_size t ht, HR.out _ ?hd⟩
  case hd => repeat (first | exact Gr.refl _ _ | (refine Gr.trans ?_ (Gr.set _ _ _ _)))
set_option maxHeartbeats 4000000 in
theorem drawCount (A : Option Addr) (cap : Nat) (code : List UInt8) (w : World) (hat : At1 w w.heap.size A (code.map bv)) (hn : code.length ≤ 1000000000) :
    Calls Tryd.prog 31 #[.slice A code.length cap] w fun e w' => ∃ v B c z, e = .returned (.tuple #[v.agg B c, .int .i64 z]) ∧ (-1 ≤ z ∧ z ≤ 10) ∧ DrewF v B c w w' := by
  have HN := Lib.hid (dNew1 A cap code w (.cells #[.int .i64 0, .int .i64 0, .int .i64 0, .string ⟨#[]⟩, .slice none 0 0] 28) hat hn)
  have B0 := Lib.hid (Blk.new w 28 #[.int .i64 0, .int .i64 0, .int .i64 0, .string ⟨#[]⟩, .slice none 0 0])
  have b0 : Below w.heap.size w (w.alloc (.cells #[.int .i64 0, .int .i64 0, .int .i64 0, .string ⟨#[]⟩, .slice none 0 0] 28)) := (Below.refl _ w).alloc (Nat.le_refl _) _
  have Z0 : Hid ((w.alloc (.cells #[.int .i64 0, .int .i64 0, .int .i64 0, .string ⟨#[]⟩, .slice none 0 0] 28)).heap.size = w.heap.size + 1) := Lib.hid (by simp)
  clear hat
  go_enter Tryd.func31, Tryd.ntmps31
  go_wp2_with fail
  refine HN.out.mono ?_
  rintro e w1 ⟨rfl, hc1, hb1⟩
  have B1 := Lib.hid (B0.out.below hb1 (by omega))
  have b1 := b0.trans (hb1.mono (by omega))
  have hz1 : w.heap.size < w1.heap.size := B1.out.lt
  clear hb1 b0 B0 HN Z0
  go_wp2_with fail
  refine (dAny _ A cap code w1 hc1).mono ?_
  rintro e w2 hdv
  obtain ⟨v, B, c, F, rfl, h1, h2, h3, h4, h5, h6, h7⟩ := hdv.opened
  have H4 := Lib.hid h4
  have H6 := Lib.hid h6
  have H7 := Lib.hid h7
  have H1 := Lib.hid h1
  have HB1 := Lib.hid b1
  clear h1 h4 h5 h6 h7 hdv
  unfold V.agg
  go_wp2_with fail
  refine (dBelow 12 _ A cap code w2 (by omega) (by omega) H7.out.1).mono ?_
  rintro e w3 ⟨⟨r, hr, rfl⟩, hd3⟩
  have D3 := Lib.hid (H7.out.trans hd3)
  have L3 := Lib.hid (lies_drawn H4.out (fun x hx => by have := H6.out x hx; have := hc1.lt; omega) hd3)
  have B2 := Lib.hid (res_cells B1.out (by omega) D3.out.2)
  have HR := Lib.hid (fun (W : World) (hg : Gr w.heap.size w3 W) => DrewF.of H1.out h2 h3 L3.out H6.out HB1.out (by omega) hz1 D3.out hg)
  clear B1 hd3 L3 D3 H4 H6 H7 H1 HB1
  obtain ⟨z, hz⟩ : ∃ z, (r : Int) - 1 = z := ⟨_, rfl⟩
  have hzr : -1 ≤ z ∧ z ≤ 10 := by omega
  have hwz : IntKind.i64.wrap ((r : Int) - 1) = z := by rw [hz, IntKind.wrap_i64]; omega
  clear hz
  have B9 := B2.out
  obtain ⟨p0, p1, p2, p3, p4⟩ := B9.five
  have f0 := B9.frozen 0
  have f1 := B9.frozen 1
  have f2 := B9.frozen 2
  have f3 := B9.frozen 3
  have f4 := B9.frozen 4
  clear B9
  go_wp2_with fail
  refine bodyPost_ret (v := .tuple #[v.agg B c, .int .i64 z]) (by simp [results, Tryd.results31, go_sem, p0, p1, p2, p3, p4, V.agg]) rfl ⟨v, B, c, z, rfl, hzr, HR.out _ ?hd⟩
  case hd => repeat (first | exact Gr.refl _ _ | (refine Gr.trans ?_ (Gr.set _ _ _ _)))
end Go.Proofs.YtcjamnfboifjeaaDoor

/-
  What a law's walk carries along: its own values' cells, and where a drawn value's kids lie.
-/
namespace Go.Proofs.YtcjamnfboifjeaaDoor
open Go.RowKit
set_option linter.unusedVariables false
set_option maxRecDepth 100000

/-- The world behind w0: blocks that hold a value's cells; values whose kids lie at an address. -/
def Ctx (w0 : World) (L : List (Nat × Array Value)) (K : List (V × Option Addr)) (W : World) : Prop :=
  Below w0.heap.size w0 W ∧ (∀ x ∈ L, Blk W x.1 28 x.2) ∧ ∀ x ∈ K, Vs.at_ W 0 W.heap.size x.1.kids x.2
theorem Ctx.start (w0 : World) : Ctx w0 [] [] w0 := ⟨Below.refl _ _, (fun _ h => by cases h), fun _ h => by cases h⟩
theorem Ctx.below {w0 W W' : World} {L : List (Nat × Array Value)} {K : List (V × Option Addr)} (h : Ctx w0 L K W) (hb : Below W.heap.size W W') : Ctx w0 L K W' :=
  ⟨h.1.trans (hb.mono h.1.size), fun x hx => (h.2.1 x hx).below hb (h.2.1 x hx).lt, fun x hx => Vs.at_more (Nat.le_refl _) hb.size _ _ (Vs.at_below (h.2.2 x hx) hb (Nat.le_refl _))⟩
theorem Ctx.drew {w0 W : World} {L : List (Nat × Array Value)} {K : List (V × Option Addr)} (h : Ctx w0 L K W) : Ctx w0 L K W.drew := h.below ((Below.refl _ W).drew)
theorem Ctx.new {w0 W : World} {L : List (Nat × Array Value)} {K : List (V × Option Addr)} (h : Ctx w0 L K W) (cs : Array Value) : Ctx w0 ((W.heap.size, cs) :: L) K (W.alloc (.cells cs 28)) := by
  have h2 := h.below ((Below.refl _ W).alloc (Nat.le_refl _) (.cells cs 28))
  refine ⟨h2.1, fun x hx => ?_, h2.2.2⟩
  rcases List.mem_cons.1 hx with rfl | hx
  · exact Blk.new _ _ _
  · exact h2.2.1 x hx
theorem Ctx.kid {w0 W : World} {L : List (Nat × Array Value)} {K : List (V × Option Addr)} (h : Ctx w0 L K W) {v : V} {B : Option Addr} (hat : Vs.at_ W 0 W.heap.size v.kids B) : Ctx w0 L ((v, B) :: K) W :=
  ⟨h.1, h.2.1, fun x hx => by
    rcases List.mem_cons.1 hx with rfl | hx
    · exact hat
    · exact h.2.2 x hx⟩
theorem Ctx.blk {w0 W : World} {L : List (Nat × Array Value)} {K : List (V × Option Addr)} (h : Ctx w0 L K W) {p : Nat} {cs : Array Value} (hm : (p, cs) ∈ L) : Blk W p 28 cs := h.2.1 _ hm
theorem Ctx.at_ {w0 W : World} {L : List (Nat × Array Value)} {K : List (V × Option Addr)} (h : Ctx w0 L K W) {v : V} {B : Option Addr} (hm : (v, B) ∈ K) : Vs.at_ W 0 W.heap.size v.kids B := h.2.2 _ hm
theorem Ctx.tail {w0 W : World} {x : Nat × Array Value} {L : List (Nat × Array Value)} {K : List (V × Option Addr)} (h : Ctx w0 (x :: L) K W) : Ctx w0 L K W := ⟨h.1, fun y hy => h.2.1 y (List.mem_cons_of_mem _ hy), h.2.2⟩
theorem Ctx.sub {w0 W : World} {L L' : List (Nat × Array Value)} {K : List (V × Option Addr)} (h : Ctx w0 L K W) (hs : ∀ x ∈ L', x ∈ L) : Ctx w0 L' K W := ⟨h.1, fun x hx => h.2.1 x (hs x hx), h.2.2⟩
theorem Ctx.new3 {w0 W : World} {L : List (Nat × Array Value)} {K : List (V × Option Addr)} (h : Ctx w0 L K W) (x y z : Array Value) : Ctx w0 ((W.heap.size + 2, z) :: (W.heap.size + 1, y) :: (W.heap.size, x) :: L) K (((W.alloc (.cells x 28)).alloc (.cells y 28)).alloc (.cells z 28)).drew := by
  have h2 := (((h.new x).new y).new z).drew
  have e1 : (W.alloc (.cells x 28)).heap.size = W.heap.size + 1 := by simp
  have e2 : ((W.alloc (.cells x 28)).alloc (.cells y 28)).heap.size = W.heap.size + 2 := by simp
  rw [e1, e2] at h2
  exact h2
/-- The five cells of a value in a block, in every world behind. -/
theorem Ctx.five {w0 W : World} {L : List (Nat × Array Value)} {K : List (V × Option Addr)} (h : Ctx w0 L K W) {p : Nat} {a b c d e : Value} (hm : (p, #[a, b, c, d, e]) ∈ L) :
    W.cell? ⟨p, 0, none⟩ = some a ∧ W.cell? ⟨p, 1, none⟩ = some b ∧ W.cell? ⟨p, 2, none⟩ = some c ∧ W.cell? ⟨p, 3, none⟩ = some d ∧ W.cell? ⟨p, 4, none⟩ = some e := (h.blk hm).five
end Go.Proofs.YtcjamnfboifjeaaDoor

/-
  A row of pairs of values: its cells; a pair stored; two pairs exchanged.
-/
namespace Go.Proofs.YtcjamnfboifjeaaDoor
open Go.RowKit
set_option linter.unusedVariables false
set_option linter.unusedSimpArgs false
set_option maxRecDepth 100000

/-- A key and a value, each where its kids lie. -/
abbrev PEnt := Ent × Ent
def PEnt.cells (x : PEnt) : List Value := x.1.cells ++ x.2.cells
def flatP (d : List PEnt) : List Value := d.flatMap PEnt.cells
theorem pcells_len (x : PEnt) : x.cells.length = 10 := rfl
theorem flatP_len (d : List PEnt) : (flatP d).length = d.length * 10 := by
  induction d with
  | nil => rfl
  | cons a l ih => simp only [flatP, List.flatMap_cons, List.length_append, List.length_cons] at *; rw [ih]; rw [pcells_len]; omega
theorem flatP_cons (a : PEnt) (l : List PEnt) : flatP (a :: l) = a.cells ++ flatP l := rfl
theorem flatP_app (a b : List PEnt) : flatP (a ++ b) = flatP a ++ flatP b := by simp [flatP]
theorem flatP_at : ∀ (d : List PEnt) (j q : Nat) (h : j < d.length), q < 10 → (flatP d)[j * 10 + q]? = (d[j].cells)[q]?
  | a :: l, 0, q, h, hq => by rw [flatP_cons, List.getElem?_append_left (by rw [pcells_len]; omega)]; simp
  | a :: l, j + 1, q, h, hq => by
    rw [flatP_cons, List.getElem?_append_right (by rw [pcells_len]; omega), pcells_len, show (j + 1) * 10 + q - 10 = j * 10 + q by omega, flatP_at l j q (by simpa using h) hq]
    rfl
/-- Block g is a row of pairs, and what lies behind. -/
def PRow (w : World) (g : Nat) (d : List PEnt) (rest : List Value) : Prop := Blk w g 79 (flatP d ++ rest).toArray
theorem PRow.cell {w : World} {g : Nat} {d : List PEnt} {rest : List Value} (h : PRow w g d rest) (j q : Nat) (hj : j < d.length) (hq : q < 10) : w.cell? ⟨g, j * 10 + q, none⟩ = (d[j].cells)[q]? := by
  rw [Blk.cell h, List.getElem?_toArray, List.getElem?_append_left (by rw [flatP_len]; omega), flatP_at d j q hj hq]
/-- The ten cells of a pair. -/
theorem PRow.ten {w : World} {g : Nat} {d : List PEnt} {rest : List Value} (h : PRow w g d rest) (j : Nat) (hj : j < d.length) :
    w.cell? ⟨g, j * 10, none⟩ = some (.int .i64 d[j].1.1.k) ∧ w.cell? ⟨g, j * 10 + 1, none⟩ = some (.int .i64 d[j].1.1.n) ∧ w.cell? ⟨g, j * 10 + 2, none⟩ = some (.int .i64 d[j].1.1.e) ∧ w.cell? ⟨g, j * 10 + 3, none⟩ = some (.string d[j].1.1.s) ∧ w.cell? ⟨g, j * 10 + 4, none⟩ = some (.slice d[j].1.2.1 d[j].1.1.kids.length d[j].1.2.2) ∧
    w.cell? ⟨g, j * 10 + 5, none⟩ = some (.int .i64 d[j].2.1.k) ∧ w.cell? ⟨g, j * 10 + 6, none⟩ = some (.int .i64 d[j].2.1.n) ∧ w.cell? ⟨g, j * 10 + 7, none⟩ = some (.int .i64 d[j].2.1.e) ∧ w.cell? ⟨g, j * 10 + 8, none⟩ = some (.string d[j].2.1.s) ∧ w.cell? ⟨g, j * 10 + 9, none⟩ = some (.slice d[j].2.2.1 d[j].2.1.kids.length d[j].2.2.2) :=
  ⟨h.cell j 0 hj (by omega), h.cell j 1 hj (by omega), h.cell j 2 hj (by omega), h.cell j 3 hj (by omega), h.cell j 4 hj (by omega), h.cell j 5 hj (by omega), h.cell j 6 hj (by omega), h.cell j 7 hj (by omega), h.cell j 8 hj (by omega), h.cell j 9 hj (by omega)⟩
theorem PRow.soft {w : World} {g : Nat} {d : List PEnt} {rest : List Value} (h : PRow w g d rest) (i : Nat) : w.frozen? ⟨g, i, none⟩ = false := Blk.frozen h i
theorem PRow.lt {w : World} {g : Nat} {d : List PEnt} {rest : List Value} (h : PRow w g d rest) : g < w.heap.size := Blk.lt h
/-- A pair stored. -/
def st10 (w : World) (g P : Nat) (x : PEnt) : World := ((((((((((w).setCell ⟨g, P, none⟩ (.int .i64 x.1.1.k)).setCell ⟨g, P + 1, none⟩ (.int .i64 x.1.1.n)).setCell ⟨g, P + 2, none⟩ (.int .i64 x.1.1.e)).setCell ⟨g, P + 3, none⟩ (.string x.1.1.s)).setCell ⟨g, P + 4, none⟩ (.slice x.1.2.1 x.1.1.kids.length x.1.2.2)).setCell ⟨g, P + 5, none⟩ (.int .i64 x.2.1.k)).setCell ⟨g, P + 6, none⟩ (.int .i64 x.2.1.n)).setCell ⟨g, P + 7, none⟩ (.int .i64 x.2.1.e)).setCell ⟨g, P + 8, none⟩ (.string x.2.1.s)).setCell ⟨g, P + 9, none⟩ (.slice x.2.2.1 x.2.1.kids.length x.2.2.2)
theorem set_right (l t : List Value) (n : Nat) (v : Value) (h : l.length = 10) : (l ++ t).set (n + 10) v = l ++ t.set n v := by
  rw [List.set_append_right _ _ (by omega), h, Nat.add_sub_cancel]
theorem set10 (x : PEnt) (rest : List Value) : ∀ (d : List PEnt) (i : Nat), i < d.length → (((((((((((flatP d ++ rest)).set (i * 10) (.int .i64 x.1.1.k)).set (i * 10 + 1) (.int .i64 x.1.1.n)).set (i * 10 + 2) (.int .i64 x.1.1.e)).set (i * 10 + 3) (.string x.1.1.s)).set (i * 10 + 4) (.slice x.1.2.1 x.1.1.kids.length x.1.2.2)).set (i * 10 + 5) (.int .i64 x.2.1.k)).set (i * 10 + 6) (.int .i64 x.2.1.n)).set (i * 10 + 7) (.int .i64 x.2.1.e)).set (i * 10 + 8) (.string x.2.1.s)).set (i * 10 + 9) (.slice x.2.2.1 x.2.1.kids.length x.2.2.2) = flatP (d.set i x) ++ rest
  | [], i, h => by simp at h
  | a :: l, 0, h => by
    rw [List.set_cons_zero, flatP_cons, flatP_cons]
    simp [PEnt.cells, Ent.cells, List.set]
  | a :: l, i + 1, h => by
    have ih := set10 x rest l i (by simpa using h)
    rw [List.set_cons_succ, flatP_cons, flatP_cons, List.append_assoc, List.append_assoc, ← ih]
    have e : ∀ q, (i + 1) * 10 + q = (i * 10 + q) + 10 := fun q => by omega
    have e0 : (i + 1) * 10 = i * 10 + 10 := by omega
    rw [e 1, e 2, e 3, e 4, e 5, e 6, e 7, e 8, e 9, e0]
    rw [set_right _ _ _ _ (pcells_len a), set_right _ _ _ _ (pcells_len a), set_right _ _ _ _ (pcells_len a), set_right _ _ _ _ (pcells_len a), set_right _ _ _ _ (pcells_len a), set_right _ _ _ _ (pcells_len a), set_right _ _ _ _ (pcells_len a), set_right _ _ _ _ (pcells_len a), set_right _ _ _ _ (pcells_len a), set_right _ _ _ _ (pcells_len a)]
theorem PRow.st10 {w : World} {g : Nat} {d : List PEnt} {rest : List Value} (h : PRow w g d rest) (i : Nat) (hi : i < d.length) (x : PEnt) : PRow (st10 w g (i * 10) x) g (d.set i x) rest := by
  have h2 := (((((((((((show Blk w g _ _ from h)).set (i * 10) (.int .i64 x.1.1.k)).set (i * 10 + 1) (.int .i64 x.1.1.n)).set (i * 10 + 2) (.int .i64 x.1.1.e)).set (i * 10 + 3) (.string x.1.1.s)).set (i * 10 + 4) (.slice x.1.2.1 x.1.1.kids.length x.1.2.2)).set (i * 10 + 5) (.int .i64 x.2.1.k)).set (i * 10 + 6) (.int .i64 x.2.1.n)).set (i * 10 + 7) (.int .i64 x.2.1.e)).set (i * 10 + 8) (.string x.2.1.s)).set (i * 10 + 9) (.slice x.2.2.1 x.2.1.kids.length x.2.2.2)
  unfold PRow
  rw [← set10 x rest d i hi]
  simp only [List.setIfInBounds_toArray] at h2
  exact h2
theorem st10_gr (w : World) (g P : Nat) (x : PEnt) : Gr g w (st10 w g P x) := by
  unfold Go.Proofs.YtcjamnfboifjeaaDoor.st10
  exact Gr.trans (Gr.trans (Gr.trans (Gr.trans (Gr.trans (Gr.trans (Gr.trans (Gr.trans (Gr.trans (Gr.set g _ _ _) (Gr.set g _ _ _)) (Gr.set g _ _ _)) (Gr.set g _ _ _)) (Gr.set g _ _ _)) (Gr.set g _ _ _)) (Gr.set g _ _ _)) (Gr.set g _ _ _)) (Gr.set g _ _ _)) (Gr.set g _ _ _)
/-- Two pairs exchanged. -/
theorem PRow.swap {w : World} {g : Nat} {d : List PEnt} {rest : List Value} (h : PRow w g d rest) (i j : Nat) (hi : i < d.length) (hj : j < d.length) (x y : PEnt) : PRow (Go.Proofs.YtcjamnfboifjeaaDoor.st10 (Go.Proofs.YtcjamnfboifjeaaDoor.st10 w g (i * 10) x) g (j * 10) y) g ((d.set i x).set j y) rest :=
  (h.st10 i hi x).st10 j (by simpa using hj) y
theorem swap_mid (A B C : List PEnt) (x y : PEnt) : ((A ++ x :: (B ++ y :: C)).set A.length y).set (A.length + 1 + B.length) x = A ++ y :: (B ++ x :: C) := by
  rw [List.set_append_right _ _ (Nat.le_refl _), Nat.sub_self, List.set_cons_zero, List.set_append_right _ _ (by omega), show A.length + 1 + B.length - A.length = B.length + 1 by omega, List.set_cons_succ, List.set_append_right _ _ (Nat.le_refl _), Nat.sub_self, List.set_cons_zero]
end Go.Proofs.YtcjamnfboifjeaaDoor

/-
  Ranges of pairs exchanged.
-/
namespace Go.Proofs.YtcjamnfboifjeaaDoor
open Go.RowKit
set_option linter.unusedVariables false
set_option linter.unusedSimpArgs false
set_option maxRecDepth 100000

/-- What exchanging j of them has laid. -/
def swSeg (L X M Y R : List PEnt) (j : Nat) : List PEnt := L ++ (Y.take j ++ (X.drop j ++ (M ++ (X.take j ++ (Y.drop j ++ R)))))
theorem swSeg_zero (L X M Y R : List PEnt) : swSeg L X M Y R 0 = L ++ (X ++ (M ++ (Y ++ R))) := by simp [swSeg]
theorem swSeg_all {L X M Y R : List PEnt} (h : X.length = Y.length) : swSeg L X M Y R X.length = L ++ (Y ++ (M ++ (X ++ R))) := by
  unfold swSeg
  rw [List.take_length, List.drop_length, h, List.take_length, List.drop_length]
  simp
theorem swSeg_len {L X M Y R : List PEnt} (j : Nat) (h : X.length = Y.length) : (swSeg L X M Y R j).length = L.length + X.length + M.length + Y.length + R.length := by
  unfold swSeg
  simp only [List.length_append, List.length_take, List.length_drop]
  omega
theorem swSeg_next {L X M Y R : List PEnt} {j : Nat} (h : X.length = Y.length) (hj : j < X.length) : ∃ x y : PEnt, (swSeg L X M Y R j)[L.length + j]? = some x ∧ (swSeg L X M Y R j)[L.length + X.length + M.length + j]? = some y ∧ ((swSeg L X M Y R j).set (L.length + j) y).set (L.length + X.length + M.length + j) x = swSeg L X M Y R (j + 1) := by
  have hj2 : j < Y.length := by omega
  have ex : X.drop j = X[j] :: X.drop (j + 1) := List.drop_eq_getElem_cons hj
  have ey : Y.drop j = Y[j] :: Y.drop (j + 1) := List.drop_eq_getElem_cons hj2
  have tx : X.take (j + 1) = X.take j ++ [X[j]] := by rw [List.take_succ_eq_append_getElem hj]
  have ty : Y.take (j + 1) = Y.take j ++ [Y[j]] := by rw [List.take_succ_eq_append_getElem hj2]
  have e0 : swSeg L X M Y R j = (L ++ Y.take j) ++ X[j] :: ((X.drop (j + 1) ++ (M ++ X.take j)) ++ Y[j] :: (Y.drop (j + 1) ++ R)) := by unfold swSeg; rw [ex, ey]; simp only [List.append_assoc, List.cons_append]
  have e1 : swSeg L X M Y R (j + 1) = (L ++ Y.take j) ++ Y[j] :: ((X.drop (j + 1) ++ (M ++ X.take j)) ++ X[j] :: (Y.drop (j + 1) ++ R)) := by unfold swSeg; rw [tx, ty]; simp only [List.append_assoc, List.cons_append, List.nil_append]
  have l1 : (L ++ Y.take j).length = L.length + j := by simp; omega
  have l2 : (L ++ Y.take j).length + 1 + (X.drop (j + 1) ++ (M ++ X.take j)).length = L.length + X.length + M.length + j := by simp; omega
  refine ⟨X[j], Y[j], ?_, ?_, ?_⟩
  · rw [e0, ← l1]; simp
  · rw [e0, ← l2, List.getElem?_append_right (by omega), show (L ++ Y.take j).length + 1 + (X.drop (j + 1) ++ (M ++ X.take j)).length - (L ++ Y.take j).length = (X.drop (j + 1) ++ (M ++ X.take j)).length + 1 by omega, List.getElem?_cons_succ]
    simp
  · rw [e0, e1]
    have := swap_mid (L ++ Y.take j) (X.drop (j + 1) ++ (M ++ X.take j)) (Y.drop (j + 1) ++ R) X[j] Y[j]
    rw [l2, l1] at this
    exact this
set_option maxHeartbeats 2000000 in
theorem swapRange (g c : Nat) (fn : Value) (L X M Y R : List PEnt) (rest : List Value) (w : World) (a b n N : Nat) (hr : PRow w g (L ++ (X ++ (M ++ (Y ++ R)))) rest) (hXY : X.length = Y.length) (ha : a = L.length) (hb : b = L.length + X.length + M.length) (hn : n = X.length) (hN : N = L.length + X.length + M.length + Y.length + R.length) (hd : N ≤ 100000) :
    Calls Tryd.prog 112 #[.slice (some ⟨g, 0, none⟩) N c, .int .i64 a, .int .i64 b, .int .i64 n, fn] w fun e w' => e = .returned (.tuple #[]) ∧ PRow w' g (L ++ (Y ++ (M ++ (X ++ R)))) rest ∧ Gr g w w' := by
  have HR := Lib.hid hr
  have ha1 : a + n ≤ N := by omega
  have hb1 : b + n ≤ N := by omega
  have hab : a + n ≤ b := by omega
  have HA := Lib.hid ha
  have HB := Lib.hid hb
  have HN := Lib.hid hn
  have HL := Lib.hid (fun j => (swSeg_len (L := L) (M := M) (R := R) j hXY).trans hN.symm)
  have HX := Lib.hid hXY
  have HS := Lib.hid (fun j (h : j < X.length) => swSeg_next (L := L) (M := M) (R := R) hXY h)
  clear hr ha hb hn hN hXY
  go_enter Tryd.func112, Tryd.ntmps112
  go_wp2_with fail
  go_loopw [10] (fun i wr => ∃ j : Nat, i = .int .i64 j ∧ j ≤ n ∧ Hid (PRow wr g (swSeg L X M Y R j) rest) ∧ Hid (Gr g w wr)) (fun i _ => n - (intOf i).toNat)
  case atStart => exact ⟨0, rfl, Nat.zero_le _, Lib.hid (by rw [swSeg_zero]; exact HR.out), Lib.hid (Gr.refl _ _)⟩
  case round =>
    obtain ⟨j, rfl, hj, HP, HG⟩ := hrel
    by_cases hlt : j < n
    · have hlt2 : (j : Int) < (n : Int) := by omega
      obtain ⟨x, y, hx, hy, hset⟩ := HS.out j (by have := HN.out; omega)
      rw [← HB.out] at hy hset
      rw [← HA.out] at hx hset
      have HSET := Lib.hid hset
      have hl := HL.out j
      obtain ⟨dj, hdj⟩ : ∃ dj, swSeg L X M Y R j = dj := ⟨_, rfl⟩
      rw [hdj] at HP hx hy HSET hl
      clear hdj hset
      obtain ⟨hi1, hx⟩ := List.getElem?_eq_some_iff.1 hx
      obtain ⟨hi2, hy⟩ := List.getElem?_eq_some_iff.1 hy
      have HX10 := HP.out.ten (a + j) hi1
      have HY10 := HP.out.ten (b + j) hi2
      rw [hx] at HX10
      rw [hy] at HY10
      obtain ⟨x0, x1, x2, x3, x4, x5, x6, x7, x8, x9⟩ := HX10
      obtain ⟨y0, y1, y2, y3, y4, y5, y6, y7, y8, y9⟩ := HY10
      have haj : (a : Int) + (j : Int) < (N : Int) := by omega
      have hbj : (b : Int) + (j : Int) < (N : Int) := by omega
      have hta : ((a : Int) + (j : Int)).toNat = a + j := by omega
      have htb : ((b : Int) + (j : Int)).toNat = b + j := by omega
      have hfz : ∀ i, wr.frozen? ⟨g, i, none⟩ = false := HP.out.soft
      have hPQ : ∀ q r, q < 10 → r < 10 → ¬ (a + j) * 10 + q = (b + j) * 10 + r := fun q r h1 h2 => by omega
      have hQP : ∀ q r, q < 10 → r < 10 → ¬ (b + j) * 10 + q = (a + j) * 10 + r := fun q r h1 h2 => by omega
      have hPQ0 : ∀ r, r < 10 → ¬ (a + j) * 10 = (b + j) * 10 + r := fun r h => by omega
      have hQP0 : ∀ r, r < 10 → ¬ (b + j) * 10 = (a + j) * 10 + r := fun r h => by omega
      have hPQ1 : ∀ r, r < 10 → ¬ (a + j) * 10 + r = (b + j) * 10 := fun r h => by omega
      have hQP1 : ∀ r, r < 10 → ¬ (b + j) * 10 + r = (a + j) * 10 := fun r h => by omega
      have hPQ2 : ¬ (a + j) * 10 = (b + j) * 10 := by omega
      have hQP2 : ¬ (b + j) * 10 = (a + j) * 10 := by omega
      have HRES := Lib.hid (HP.out.swap (a + j) (b + j) hi1 hi2 y x)
      rw [HSET.out] at HRES
      clear hx hy HSET hl
      go_upto_region 3 with fail
      go_region
      clear hPQ hQP hPQ0 hQP0 hPQ1 hQP1 hPQ2 hQP2 x0 x1 x2 x3 x4 x5 x6 x7 x8 x9 y0 y1 y2 y3 y4 y5 y6 y7 y8 y9 hfz
      have HG2 := Lib.hid ((HG.out.trans (st10_gr wr g ((a + j) * 10) y)).trans (st10_gr _ g ((b + j) * 10) x))
      obtain ⟨W, hW⟩ : ∃ W, W = st10 (st10 wr g ((a + j) * 10) y) g ((b + j) * 10) x := ⟨_, rfl⟩
      rw [← hW] at HRES HG2
      unfold st10 at hW
      rw [← hW]
      clear hW
      go_wp2_with fail
      go_roundw
      case rel => exact ⟨j + 1, by go_num, by omega, Lib.hid HRES.out, Lib.hid HG2.out.drew⟩
      case measure => simp [intOf]; omega
    · have hge : (n : Int) ≤ (j : Int) := by omega
      have hge2 : ¬ (j : Int) < (n : Int) := by omega
      have hjn : X.length = j := by have := HN.out; omega
      have HF := HP.out
      rw [← hjn, swSeg_all HX.out] at HF
      have HF2 := Lib.hid HF
      clear HF hjn
      go_wp2_with fail
      go_end0
      exact ⟨rfl, HF2.out, HG.out⟩
end Go.Proofs.YtcjamnfboifjeaaDoor

/-
  The library's order of two numbers and of two texts, and its first that is not 0.
-/
namespace Go.Proofs.YtcjamnfboifjeaaDoor
open Go.RowKit
set_option linter.unusedVariables false
set_option maxRecDepth 100000
set_option linter.unusedSimpArgs false

theorem isNaN_int (a : Int) (w : World) : Calls Tryd.prog 84 #[.int .i64 a] w fun e w' => e = .returned (.bool false) ∧ w' = w := by
  go_enter Tryd.func84, Tryd.ntmps84
  go_wp2_with fail
  go_ret
  exact ⟨ret_bool (by simp), rfl⟩
theorem cmpInt (a b : Int) (w : World) : Calls Tryd.prog 57 #[.int .i64 a, .int .i64 b] w fun e w' => e = .returned (.int .i64 (lessI a b)) ∧ w' = w := by
  by_cases h1 : a < b
  · have H := Lib.hid (lessI_lt h1)
    go_enter Tryd.func57, Tryd.ntmps57
    go_wp2_with fail
    refine (isNaN_int a w).mono ?_
    rintro e w1 ⟨rfl, rfl⟩
    go_wp2_with fail
    refine (isNaN_int b w1).mono ?_
    rintro e w1 ⟨rfl, rfl⟩
    go_wp2_with fail
    go_ret
    exact ⟨ret_num (by rw [H.out]), rfl⟩
  · by_cases h2 : b < a
    · have H := Lib.hid (lessI_gt h2)
      go_enter Tryd.func57, Tryd.ntmps57
      go_wp2_with fail
      refine (isNaN_int a w).mono ?_
      rintro e w1 ⟨rfl, rfl⟩
      go_wp2_with fail
      refine (isNaN_int b w1).mono ?_
      rintro e w1 ⟨rfl, rfl⟩
      go_wp2_with fail
      go_ret
      exact ⟨ret_num (by rw [H.out]), rfl⟩
    · obtain rfl : a = b := by omega
      have H := Lib.hid (lessI_eq a)
      go_enter Tryd.func57, Tryd.ntmps57
      go_wp2_with fail
      refine (isNaN_int a w).mono ?_
      rintro e w1 ⟨rfl, rfl⟩
      go_wp2_with fail
      refine (isNaN_int a w1).mono ?_
      rintro e w1 ⟨rfl, rfl⟩
      go_wp2_with fail
      go_ret
      exact ⟨ret_num (by rw [H.out]), rfl⟩

theorem isNaN_text (a : ByteArray) (w : World) : Calls Tryd.prog 85 #[.string a] w fun e w' => e = .returned (.bool false) ∧ w' = w := by
  go_enter Tryd.func85, Tryd.ntmps85
  go_wp2_with fail
  go_ret
  exact ⟨ret_bool (by simp), rfl⟩
theorem cmpText (a b : ByteArray) (w : World) : Calls Tryd.prog 58 #[.string a, .string b] w fun e w' => e = .returned (.int .i64 (lessT a b)) ∧ w' = w := by
  by_cases h1 : Op.bytesLess a.toList b.toList = true
  · have H := Lib.hid (show lessT a b = -1 by unfold lessT; rw [if_pos h1])
    go_enter Tryd.func58, Tryd.ntmps58
    go_wp2_with fail
    refine (isNaN_text a w).mono ?_
    rintro e w1 ⟨rfl, rfl⟩
    go_wp2_with fail
    refine (isNaN_text b w1).mono ?_
    rintro e w1 ⟨rfl, rfl⟩
    go_wp2_with fail
    go_ret
    exact ⟨ret_num (by rw [H.out]), rfl⟩
  · have h1' : Op.bytesLess a.toList b.toList = false := by simpa using h1
    by_cases h2 : (a.toList == b.toList) = true
    · have H := Lib.hid (show lessT a b = 0 by unfold lessT; rw [if_neg h1, if_pos h2])
      clear h1
      go_enter Tryd.func58, Tryd.ntmps58
      go_wp2_with fail
      refine (isNaN_text a w).mono ?_
      rintro e w1 ⟨rfl, rfl⟩
      go_wp2_with fail
      refine (isNaN_text b w1).mono ?_
      rintro e w1 ⟨rfl, rfl⟩
      go_wp2_with fail
      go_ret
      exact ⟨ret_num (by rw [H.out]), rfl⟩
    · have H := Lib.hid (show lessT a b = 1 by unfold lessT; rw [if_neg h1, if_neg h2])
      have h2' : (a.toList == b.toList) = false := by simpa using h2
      clear h1 h2
      go_enter Tryd.func58, Tryd.ntmps58
      go_wp2_with fail
      refine (isNaN_text a w).mono ?_
      rintro e w1 ⟨rfl, rfl⟩
      go_wp2_with fail
      refine (isNaN_text b w1).mono ?_
      rintro e w1 ⟨rfl, rfl⟩
      go_wp2_with fail
      go_ret
      exact ⟨ret_num (by rw [H.out]), rfl⟩

set_option maxHeartbeats 1000000 in
/-- cmp.Or: the first that is not 0 of n numbers that lie in block g. -/
theorem cmpOr (f : Nat → Int) (n c g : Nat) (w : World) (hn : n ≤ 1000) (hg : ∀ i, i < n → w.cell? ⟨g, i, none⟩ = some (.int .i64 (f i))) :
    Calls Tryd.prog 56 #[.slice (some ⟨g, 0, none⟩) n c] w fun e w' => e = .returned (.int .i64 (orN f n)) ∧ w' = w := by
  have HG := Lib.hid hg
  have HF := Lib.hid (orN_first f n)
  have HZ := Lib.hid (orN_zero f n)
  clear hg
  go_enter Tryd.func56, Tryd.ntmps56
  go_wp2_with fail
  go_loopw [8] (fun i wr => ∃ j : Nat, j ≤ n ∧ i = .int .i64 j ∧ wr = w ∧ ∀ k, k < j → f k = 0) (fun i _ => n - (intOf i).toNat)
  case atStart => exact ⟨0, Nat.zero_le _, rfl, rfl, fun k hk => by omega⟩
  case round =>
    obtain ⟨j, hj, rfl, rfl, hz⟩ := hrel
    have HH := Lib.hid hz
    clear hz
    by_cases hlt : j < n
    · have c0 := HG.out j hlt
      by_cases h0 : f j = 0
      · have h0' := h0
        have H0 := Lib.hid h0'
        clear h0'
        rw [h0] at c0
        clear h0
        go_wp2_with fail
        go_roundw
        case rel => exact ⟨j + 1, by omega, by go_num, by simp, fun k hk => by
          by_cases hk2 : k = j
          · subst hk2; exact H0.out
          · exact HH.out k (by omega)⟩
        case measure => simp [intOf]; omega
      · go_wp2_with fail
        go_ret
        exact ⟨ret_num (by rw [HF.out j HH.out hlt h0]), rfl⟩
    · obtain rfl : j = n := by omega
      go_wp2_with fail
      go_ret
      exact ⟨ret_num (by rw [HZ.out HH.out]), rfl⟩
end Go.Proofs.YtcjamnfboifjeaaDoor

/-
  The program's Compare.
-/
namespace Go.Proofs.YtcjamnfboifjeaaDoor
open Go.RowKit
set_option linter.unusedVariables false
set_option maxRecDepth 100000
set_option linter.unusedSimpArgs false

def ImplCmpSaid (a : V) : Prop := ∀ (b : V) (A B : Option Addr) (ca cb : Nat) (w : World), a.nodes ≤ 1048577 → b.nodes ≤ 1048577 → Vs.at_ w 0 w.heap.size a.kids A → Vs.at_ w 0 w.heap.size b.kids B →
    Calls Tryd.prog 17 #[a.agg A ca, b.agg B cb] w fun e w' => e = .returned (.int .i64 (V.cmp a b)) ∧ Below w.heap.size w w'

/-- What is held while two rows are compared. -/
theorem cmpEnters : ∀ (args : Array Value) (w : World), (callFunc 17 args).run Tryd.prog w = .ok (.enter 17 args) w :=
  enters_of Tryd.func17 (by kernel_rfl) rfl

set_option maxHeartbeats 4000000 in
theorem cmpFunc (l m : List V) (hk : ∀ i (h : i < l.length), ImplCmpSaid l[i]) (A B : Option Addr) (ca cb : Nat) (w : World) (hlen : l.length = m.length) (hn : Vs.nodes l ≤ 1048576) (hm : Vs.nodes m ≤ 1048576) (hat : Vs.at_ w 0 w.heap.size l A) (hbt : Vs.at_ w 0 w.heap.size m B) :
    Calls Tryd.prog 59 #[.slice A l.length ca, .slice B m.length cb, .func (Fn.func 17) #[] #[]] w fun e w' => e = .returned (.int .i64 (Vs.cmp l m)) ∧ Below w.heap.size w w' := by
  have hl : l.length ≤ 1048576 := by have := Vs.len_nodes l; omega
  have HK := fun (i : Nat) (h : i < l.length) (h2 : i < m.length) (A' B' : Option Addr) (c c' : Nat) (w' : World) (h1 : Vs.at_ w' 0 w'.heap.size (l[i]).kids A') (h2' : Vs.at_ w' 0 w'.heap.size (m[i]).kids B') => hk i h m[i] A' B' c c' w' (by have := Vs.nodes_get i h; omega) (by have := Vs.nodes_get i h2; omega) h1 h2'
  have HC := Lib.hid HK
  clear HK hk
  have HA := Lib.hid hat
  have HB := Lib.hid hbt
  have HL := Lib.hid hlen
  have HS := Lib.hid (Vs.cmp_first l m)
  have HN := Lib.hid (Vs.cmp_none l m)
  have hE := cmpEnters
  clear hat hbt
  rw [← hlen]
  clear hlen
  go_enter Tryd.func59, Tryd.ntmps59
  go_wp2_with fail
  go_loopw [13] (fun i wr => ∃ j : Nat, j ≤ l.length ∧ i = .int .i64 j ∧ (∀ k (h1 : k < l.length) (h2 : k < m.length), k < j → V.cmp l[k] m[k] = 0) ∧ Below w.heap.size w wr) (fun i _ => l.length - (intOf i).toNat)
  case atStart => exact ⟨0, Nat.zero_le _, rfl, fun k _ _ hk => by omega, Below.refl _ _⟩
  case round =>
    obtain ⟨j, hj, rfl, hz, hb⟩ := hrel
    have HH := Lib.hid hz
    clear hz
    by_cases hlt : j < l.length
    · have hlt2 : j < m.length := by have := HL.out; omega
      obtain ⟨g, off, A', cap', rfl, g1, g2, g3, ⟨c0, c1, c2, c3, c4⟩, g5⟩ := Vs.at_get j hlt (Vs.at_below HA.out hb (Nat.le_refl _))
      obtain ⟨g', off2, A2', cap2', rfl, g12, g22, g32, ⟨d0, d1, d2, d3, d4⟩, g52⟩ := Vs.at_get j hlt2 (Vs.at_below HB.out hb (Nat.le_refl _))
      have HJ := Lib.hid (HS.out j hlt hlt2 HH.out)
      have hbs := hb.size
      have hg2 : g' < wr.heap.size := by omega
      go_wp2_with fail
      refine (HC.out j hlt hlt2 A' A2' cap' cap2' _ (Vs.at_more (Nat.le_refl _) (by simp; omega) _ _ (Vs.at_alloc (Vs.at_alloc g5 hb.size _) (by simp; omega) _)) (Vs.at_more (Nat.le_refl _) (by simp; omega) _ _ (Vs.at_alloc (Vs.at_alloc g52 hb.size _) (by simp; omega) _))).mono ?_
      rintro e w1 ⟨rfl, hb1⟩
      have hbw : Below w.heap.size w w1 := ((hb.alloc hb.size _).alloc (by simp; omega) _).trans (hb1.mono (by simp; omega))
      clear c0 c1 c2 c3 c4 d0 d1 d2 d3 d4
      by_cases h0 : V.cmp l[j] m[j] = 0
      · have H0 := Lib.hid h0
        rw [h0]
        clear h0
        go_wp2_with fail
        go_roundw
        case rel => exact ⟨j + 1, by omega, by go_num, fun k h1 h2 hk => by
          by_cases hk2 : k = j
          · subst hk2; exact H0.out
          · exact HH.out k h1 h2 (by omega), hbw⟩
        case measure => simp [intOf]; omega
      · go_wp2_with fail
        go_ret
        exact ⟨ret_num (by rw [HJ.out h0]), hbw⟩
    · obtain rfl : j = l.length := by omega
      go_wp2_with fail
      go_ret
      exact ⟨ret_num (HN.out fun k h1 h2 => HH.out k h1 h2 h1).symm, hb⟩

set_option maxHeartbeats 4000000 in
theorem implCmp_step (a : V) (hk : ∀ i (h : i < a.kids.length), ImplCmpSaid a.kids[i]) : ImplCmpSaid a := by
  intro b A B ca cb w hn hm hat hbt
  rw [V.nodes_eq] at hn hm
  have hl : a.kids.length ≤ 1048576 := by have := Vs.len_nodes a.kids; omega
  have hl2 : b.kids.length ≤ 1048576 := by have := Vs.len_nodes b.kids; omega
  have HC := Lib.hid (cmpFunc a.kids b.kids hk)
  clear hk
  have HA := Lib.hid hat
  have HB := Lib.hid hbt
  clear hat hbt
  unfold V.agg
  go_enter Tryd.func17, Tryd.ntmps17
  go_wp2_with fail
  obtain ⟨w2, hw2, Ba, Bb, b1, z2⟩ := two_new w 28 28 #[.int .i64 a.k, .int .i64 a.n, .int .i64 a.e, .string a.s, .slice A a.kids.length ca] #[.int .i64 b.k, .int .i64 b.n, .int .i64 b.e, .string b.s, .slice B b.kids.length cb]
  rw [← hw2]
  clear hw2
  obtain ⟨p0, p1, p2, p3, p4⟩ := Ba.five
  obtain ⟨q0, q1, q2, q3, q4⟩ := Bb.five
  refine wp_region_still_tail 27 (by kernel_rfl) (by kernel_rfl) ?_
  simp only [List.take_succ_cons, List.take_zero, List.drop_succ_cons, List.drop_zero]
  still_step; still_step; still_step; still_step
  still_call (cmpInt _ _ _)
  still_step; still_step; still_step; still_step
  still_call (cmpInt _ _ _)
  still_step; still_step; still_step; still_step
  still_call (cmpInt _ _ _)
  still_step; still_step; still_step; still_step
  still_call (cmpText _ _ _)
  still_step; still_step; still_step; still_step; still_step; still_step
  still_call (cmpInt _ _ _)
  refine wpStill_nil ?_
  change wpList _ _ _ _ _ w2.drew
  clear p0 p1 p2 p3 p4 q0 q1 q2 q3 q4
  have BO : Blk (w2.alloc (.cells (ordCells a b) 3)).drew w2.heap.size 3 (ordCells a b) := (Blk.new w2 _ _).drew
  have hO := ordCells_at BO
  rw [z2] at hO
  have a4 : (w2.alloc (.cells (ordCells a b) 3)).drew.cell? ⟨w.heap.size, 4, none⟩ = some (.slice A a.kids.length ca) := ((Ba.alloc _).drew).cell 4
  have b4 : (w2.alloc (.cells (ordCells a b) 3)).drew.cell? ⟨w.heap.size + 1, 4, none⟩ = some (.slice B b.kids.length cb) := ((Bb.alloc _).drew).cell 4
  have b5 : Below w.heap.size w (w2.alloc (.cells (ordCells a b) 3)).drew := (b1.alloc b1.size _).drew
  clear Ba Bb b1
  have HO := Lib.hid hO
  clear hO
  have hz5 : w.heap.size ≤ (w2.alloc (.cells (ordCells a b) 3)).drew.heap.size := b5.size
  have HZ := Lib.hid hz5
  clear hz5
  go_wp2_with fail
  change Calls _ _ _ (w2.alloc (.cells (ordCells a b) 3)).drew _
  generalize (w2.alloc (.cells (ordCells a b) 3)).drew = w3 at *
  refine (cmpOr (ordAt a b) 5 5 (w.heap.size + 2) w3 (by omega) HO.out).mono ?_
  rintro e wx ⟨rfl, rfl⟩
  rw [show orN (ordAt a b) 5 = V.ord a b from rfl]
  by_cases h0 : V.ord a b = 0
  · have HL := Lib.hid (V.ord_len h0)
    have HQ := Lib.hid (V.cmp_zero h0)
    rw [h0]
    clear h0
    go_wp2_with fail
    refine (HC.out A B ca cb wx HL.out (by omega) (by omega) (Vs.at_more (Nat.le_refl _) HZ.out _ _ (Vs.at_below HA.out b5 (Nat.le_refl _))) (Vs.at_more (Nat.le_refl _) HZ.out _ _ (Vs.at_below HB.out b5 (Nat.le_refl _)))).mono ?_
    rintro e w4 ⟨rfl, hb4⟩
    have b6 := b5.trans (hb4.mono HZ.out)
    go_wp2_with fail
    go_ret
    exact ⟨ret_num (by rw [HQ.out]), b6⟩
  · have HQ := Lib.hid (V.cmp_ord h0)
    go_wp2_with fail
    go_ret
    exact ⟨ret_num (by rw [HQ.out]), b5⟩
theorem implCmp (a : V) : ImplCmpSaid a := V.all implCmp_step a
end Go.Proofs.YtcjamnfboifjeaaDoor

/-
  Nodes: how many values there are in a value; a walk over a value, node by node.
-/
namespace Go.Proofs.YtcjamnfboifjeaaDoor
open Go.RowKit
set_option linter.unusedVariables false
set_option maxRecDepth 100000
set_option linter.unusedSimpArgs false

theorem Vs.nodes_snoc (l : List V) (v : V) : Vs.nodes (l ++ [v]) = Vs.nodes l + v.nodes := by
  induction l with
  | nil => simp [Vs.nodes]
  | cons a l ih => simp only [List.cons_append, Vs.nodes, ih]; omega
theorem Vs.nodes_step (l : List V) (i : Nat) (h : i < l.length) : Vs.nodes (l.take (i + 1)) = Vs.nodes (l.take i) + (l[i]).nodes := by
  rw [List.take_succ_eq_append_getElem h, Vs.nodes_snoc]
theorem Vs.nodes_take (l : List V) : ∀ i, Vs.nodes (l.take i) ≤ Vs.nodes l := by
  induction l with
  | nil => intro i; simp
  | cons a l ih =>
    intro i
    cases i with
    | zero => simp [Vs.nodes]
    | succ i => simp only [List.take_succ_cons, Vs.nodes]; have := ih i; omega

def SpecNodesSaid (v : V) : Prop := ∀ (A : Option Addr) (cap : Nat) (w : World), v.nodes ≤ 1048577 → Vs.at_ w 0 w.heap.size v.kids A →
    Calls Tryd.prog 35 #[v.agg A cap] w fun e w' => e = .returned (.int .i64 v.nodes) ∧ Below w.heap.size w w'

set_option maxHeartbeats 1000000 in
theorem specNodes_step (v : V) (hk : ∀ i (h : i < v.kids.length), SpecNodesSaid v.kids[i]) : SpecNodesSaid v := by
  intro A cap w hn hat
  have HD := Lib.hid (V.nodes_eq v)
  rw [V.nodes_eq] at hn
  have hl : v.kids.length ≤ 1048576 := by have := Vs.len_nodes v.kids; omega
  have HK := fun (i : Nat) (h : i < v.kids.length) (A' : Option Addr) (c : Nat) (w' : World) (h1 : Vs.at_ w' 0 w'.heap.size (v.kids[i]).kids A') => hk i h A' c w' (by have := Vs.nodes_get i h; omega) h1
  have HC := Lib.hid HK
  clear HK hk
  have HA := Lib.hid hat
  clear hat
  unfold V.agg
  go_enter Tryd.func35, Tryd.ntmps35
  go_wp2_with fail
  go_loopw [3, 4] (fun d i wr => ∃ j : Nat, j ≤ v.kids.length ∧ i = .int .i64 j ∧ d = .int .i64 ((Vs.nodes (v.kids.take j) : Int) + 1) ∧ Blk wr w.heap.size 28 #[.int .i64 v.k, .int .i64 v.n, .int .i64 v.e, .string v.s, .slice A v.kids.length cap] ∧ Below w.heap.size w wr) (fun _ i _ => v.kids.length - (intOf i).toNat)
  case atStart => exact ⟨0, Nat.zero_le _, rfl, rfl, Blk.new _ _ _, (Below.refl _ _).alloc (Nat.le_refl _) _⟩
  case round =>
    obtain ⟨j, hj, rfl, rfl, B, hb⟩ := hrel
    have b4 : wr.cell? ⟨w.heap.size, 4, none⟩ = some (.slice A v.kids.length cap) := B.cell 4
    by_cases hlt : j < v.kids.length
    · have hst := Vs.nodes_step v.kids j hlt
      have hd4 := Vs.nodes_take v.kids j
      have hd5 := Vs.nodes_get j hlt
      have HST := Lib.hid hst
      clear hst
      obtain ⟨b, off, A', cap', rfl, g1, g2, g3, ⟨c0, c1, c2, c3, c4⟩, g5⟩ := Vs.at_get j hlt (Vs.at_below HA.out hb (Nat.le_refl _))
      go_wp2_with fail
      refine (HC.out j hlt A' cap' _ (Vs.at_more (Nat.le_refl _) hb.size _ _ g5)).mono ?_
      rintro e w1 ⟨rfl, hb1⟩
      have hbw : Below w.heap.size w w1 := hb.trans (hb1.mono hb.size)
      have B' := B.below hb1 B.lt
      clear c0 c1 c2 c3 c4 b4
      go_wp2_with fail
      go_roundw
      case rel => exact ⟨j + 1, by omega, by go_num, by rw [HST.out]; go_num, B', hbw⟩
      case measure => simp [intOf]; omega
    · obtain rfl : j = v.kids.length := by omega
      go_wp2_with fail
      go_ret
      exact ⟨ret_num (by rw [HD.out, List.take_length]; omega), hb⟩
theorem specNodes : ∀ v, SpecNodesSaid v := V.all specNodes_step
end Go.Proofs.YtcjamnfboifjeaaDoor

/-
  The bytes of a code point, plainly.
-/
namespace Go.Proofs.YtcjamnfboifjeaaDoor
open Go.RowKit
set_option linter.unusedVariables false

/-- A number is a code point. -/
def isSg (n : Int) : Bool := decide ((0 ≤ n ∧ n < 55296) ∨ (57343 < n ∧ n ≤ 1114111))
/-- What PutSign hands back. -/
def signB (n : Int) : ByteArray := if isSg n then Utf8.encode n else ⟨#[]⟩

theorem ofInt_i64 (a : Nat) (ha : a < 9223372036854775808) : (BitVec.ofInt 64 (a : Int)).toNat = a := by
  rw [BitVec.ofInt_natCast, BitVec.toNat_ofNat]; omega
theorem and63 (n : Nat) (h : n < 9223372036854775808) : bits .and .i64 (n : Int) 63 = ((n % 64 : Nat) : Int) := by
  have h1 := ofInt_i64 n h
  have h2 := ofInt_i64 63 (by omega)
  show IntKind.i64.wrap ((BitVec.ofInt 64 (n : Int) &&& BitVec.ofInt 64 ((63 : Nat) : Int)).toNat : Int) = _
  rw [BitVec.toNat_and, h1, h2, Nat.and_two_pow_sub_one_eq_mod n 6, IntKind.wrap_i64]
  omega
theorem and63d (n d : Nat) (h : n < 9223372036854775808) : bits .and .i64 ((n : Int) / (d : Int)) 63 = ((n / d % 64 : Nat) : Int) := by
  have : n / d ≤ n := Nat.div_le_self _ _
  rw [show (n : Int) / (d : Int) = ((n / d : Nat) : Int) by simp]
  exact and63 _ (by omega)

theorem valid_of (n : Nat) (h : n < 55296 ∨ (57343 < n ∧ n < 1114112)) : Utf8.valid (n : Int) = true := by
  unfold Utf8.valid; simp; omega
theorem enc1 (n : Nat) (h : n < 128) : str [byteI n] = Utf8.encode (n : Int) := by
  have hv := valid_of n (by omega)
  unfold Utf8.encode byteI
  simp only [hv, if_true, Int.toNat_natCast]
  rw [if_pos h]
  rfl
theorem enc2 (n : Nat) (h : 128 ≤ n ∧ n < 2048) : str [byteI (192 + (n : Int) / 64), byteI (128 + (n : Int) % 64)] = Utf8.encode (n : Int) := by
  have hv := valid_of n (by omega)
  unfold Utf8.encode byteI
  simp only [hv, if_true, Int.toNat_natCast]
  rw [if_neg (by omega), if_pos (by omega), show (192 + (n : Int) / 64).toNat = 192 + n / 64 by omega, show (128 + (n : Int) % 64).toNat = 128 + n % 64 by omega]
  rfl
theorem enc3 (n : Nat) (h : (2048 ≤ n ∧ n < 55296) ∨ (57343 < n ∧ n < 65536)) : str [byteI (224 + (n : Int) / 4096), byteI (128 + (n : Int) / 64 % 64), byteI (128 + (n : Int) % 64)] = Utf8.encode (n : Int) := by
  have hv := valid_of n (by omega)
  unfold Utf8.encode byteI
  simp only [hv, if_true, Int.toNat_natCast]
  rw [if_neg (by omega), if_neg (by omega), if_pos (by omega), show (224 + (n : Int) / 4096).toNat = 224 + n / 4096 by omega, show (128 + (n : Int) % 64).toNat = 128 + n % 64 by omega, show (128 + (n : Int) / 64 % 64).toNat = 128 + n / 64 % 64 by omega]
  rfl
theorem enc4 (n : Nat) (h : 65536 ≤ n ∧ n < 1114112) : str [byteI (240 + (n : Int) / 262144), byteI (128 + (n : Int) / 4096 % 64), byteI (128 + (n : Int) / 64 % 64), byteI (128 + (n : Int) % 64)] = Utf8.encode (n : Int) := by
  have hv := valid_of n (by omega)
  unfold Utf8.encode byteI
  simp only [hv, if_true, Int.toNat_natCast]
  rw [if_neg (by omega), if_neg (by omega), if_neg (by omega), show (240 + (n : Int) / 262144).toNat = 240 + n / 262144 by omega, show (128 + (n : Int) / 4096 % 64).toNat = 128 + n / 4096 % 64 by omega, show (128 + (n : Int) % 64).toNat = 128 + n % 64 by omega, show (128 + (n : Int) / 64 % 64).toNat = 128 + n / 64 % 64 by omega]
  rfl
end Go.Proofs.YtcjamnfboifjeaaDoor

/-
  A piece of a text; plain.
-/
namespace Go.Proofs.YtcjamnfboifjeaaDoor
open Go.RowKit

/-- The first bytes of a piece. -/
def piece (s : ByteArray) (i n : Nat) : List UInt8 := (s.data.toList.drop i).take n
theorem piece_succ (s : ByteArray) (i n : Nat) (h : i + n < s.size) : piece s i (n + 1) = piece s i n ++ [s[i + n]] := by
  have hl : n < (s.data.toList.drop i).length := by simp; have : s.data.size = s.size := rfl; omega
  unfold piece
  rw [List.take_succ_eq_append_getElem hl, List.getElem_drop]
  rfl
theorem piece_len (s : ByteArray) (i n : Nat) (h : i + n ≤ s.size) : (piece s i n).length = n := by
  unfold piece
  have : s.data.size = s.size := rfl
  simp; omega
end Go.Proofs.YtcjamnfboifjeaaDoor

/-
  GetSign, plainly: the first byte's say, the bytes behind it, and the model's own decoder.
-/
namespace Go.Proofs.YtcjamnfboifjeaaDoor
open Go.RowKit
set_option linter.unusedVariables false

/-- The bytes of a sign, as numbers. -/
def encN (n : Nat) : List Nat :=
  if n < 128 then [n] else if n < 2048 then [192 + n / 64, 128 + n % 64] else if n < 65536 then [224 + n / 4096, 128 + n / 64 % 64, 128 + n % 64]
  else [240 + n / 262144, 128 + n / 4096 % 64, 128 + n / 64 % 64, 128 + n % 64]
/-- The bytes of PutSign's answer, as numbers. -/
def sgN (n : Nat) : List Nat := if n < 55296 ∨ (57343 < n ∧ n < 1114112) then encN n else []
theorem sgN_eq (n : Nat) : (signB (n : Int)).data.toList.map UInt8.toNat = sgN n := by
  unfold signB sgN
  by_cases h : n < 55296 ∨ (57343 < n ∧ n < 1114112)
  · have hv := valid_of n h
    rw [if_pos h, if_pos (by unfold isSg; simp; omega)]
    unfold Utf8.encode encN
    simp only [hv, if_true, Int.toNat_natCast]
    by_cases h1 : n < 128
    · rw [if_pos h1, if_pos h1]; simp; omega
    · rw [if_neg h1, if_neg h1]
      by_cases h2 : n < 2048
      · rw [if_pos h2, if_pos h2]; simp; omega
      · rw [if_neg h2, if_neg h2]
        by_cases h3 : n < 65536
        · rw [if_pos h3, if_pos h3]; simp; omega
        · rw [if_neg h3, if_neg h3]; simp; omega
  · rw [if_neg h, if_neg (by unfold isSg; simp; omega)]
    rfl
theorem get_get! (s : ByteArray) (i : Nat) (h : i < s.size) : s[i] = s.get! i := by
  cases s with
  | mk d => exact (getElem!_pos d i h).symm
/-- A piece's bytes, as numbers. -/
def pcN (s : ByteArray) (i m : Nat) : List Nat := (List.range m).map fun k => (s.get! (i + k)).toNat
theorem pcN_eq (s : ByteArray) (i : Nat) : ∀ m, i + m ≤ s.size → (piece s i m).map UInt8.toNat = pcN s i m
  | 0, _ => by simp [piece, pcN]
  | m + 1, h => by
    rw [piece_succ s i m (by omega), List.map_append, pcN_eq s i m (by omega), get_get! _ _ (by omega)]
    simp [pcN, List.range_succ]
theorem extract_piece (s : ByteArray) (i m : Nat) : (s.extract i (i + m)).data.toList = piece s i m := by
  unfold piece
  simp [ByteArray.data_extract]
theorem ba_ext {a b : ByteArray} (h : a.data.toList = b.data.toList) : a = b := by
  cases a; cases b; congr 1; exact Array.toList_inj.1 h
theorem map_toNat_inj {a b : List UInt8} (h : a.map UInt8.toNat = b.map UInt8.toNat) : a = b :=
  (List.map_inj_right (fun x y h => UInt8.toNat_inj.1 h)).1 h
theorem sg_cmp (s : ByteArray) (i m n : Nat) (h : i + m ≤ s.size) : signB (n : Int) = s.extract i (i + m) ↔ sgN n = pcN s i m := by
  rw [← sgN_eq, ← pcN_eq s i m h, ← extract_piece]
  constructor
  · intro h; rw [h]
  · intro h; exact ba_ext (map_toNat_inj h)

/-- GetSign reads a sign at a place. -/
def gsOk (s : ByteArray) (i : Int) : Prop := 0 ≤ i ∧ i < s.size ∧ ¬ ((Utf8.decode s i.toNat).1 = 65533 ∧ (Utf8.decode s i.toNat).2 < 3)
instance (s : ByteArray) (i : Int) : Decidable (gsOk s i) := by unfold gsOk; infer_instance
/-- What GetSign hands back. -/
def gsN (s : ByteArray) (i : Int) : Int := if gsOk s i then (Utf8.decode s i.toNat).1 else -1
def gsE (s : ByteArray) (i : Int) : Int := if gsOk s i then i + (Utf8.decode s i.toNat).2 else -1

/-- How many bytes the first one says that there are, and what it holds. -/
def manyN (b : Nat) : Nat := if b < 128 then 1 else if 192 ≤ b ∧ b ≤ 223 then 2 else if 224 ≤ b ∧ b ≤ 239 then 3 else if 240 ≤ b ∧ b ≤ 247 then 4 else 0
def headN (b : Nat) : Nat := if b < 128 then b else if 192 ≤ b ∧ b ≤ 223 then b % 32 else if 224 ≤ b ∧ b ≤ 239 then b % 16 else if 240 ≤ b ∧ b ≤ 247 then b % 8 else 0
/-- What has been read behind k more bytes. -/
def accN (s : ByteArray) (i : Nat) : Nat → Nat
  | 0 => headN (s.get! i).toNat
  | k + 1 => accN s i k * 64 + (s.get! (i + (k + 1))).toNat % 64
theorem manyN_le (b : Nat) : manyN b ≤ 4 := by unfold manyN; repeat' split
                                               all_goals omega
theorem headN_lt (b : Nat) : headN b < 128 := by unfold headN; repeat' split
                                                 all_goals omega
theorem accN_lt (s : ByteArray) (i : Nat) : ∀ k, k ≤ 3 → accN s i k < 33554432 := by
  have h0 := headN_lt (s.get! i).toNat
  intro k hk
  rcases (show k = 0 ∨ k = 1 ∨ k = 2 ∨ k = 3 by omega) with rfl | rfl | rfl | rfl <;> simp only [accN] <;> omega

set_option maxRecDepth 100000 in
set_option maxHeartbeats 4000000 in
theorem sgn_none (s : ByteArray) (i : Nat) (h : manyN (s.get! i).toNat = 0 ∨ s.size < i + manyN (s.get! i).toNat) : ¬ gsOk s (i : Int) := by
  unfold gsOk
  rintro ⟨_, h2, h3⟩
  apply h3
  rw [Int.toNat_natCast, Lib.decode_at]
  have b0 := (s.get! i).toNat_lt
  revert h
  generalize (s.get! i).toNat = b0 at *
  generalize (s.get! (i + 1)).toNat = b1 at *
  generalize (s.get! (i + 2)).toNat = b2 at *
  generalize (s.get! (i + 3)).toNat = b3 at *
  intro h
  unfold manyN at h
  unfold Lib.decodeN
  repeat' split
  all_goals first | (exact ⟨rfl, by omega⟩) | (exfalso; revert h; repeat' split
                                               all_goals omega)
set_option maxRecDepth 100000 in
set_option maxHeartbeats 4000000 in
theorem sgn_pure (z b0 b1 b2 b3 m : Nat) (hb0 : b0 < 256) (hb1 : b1 < 256) (hb2 : b2 < 256) (hb3 : b3 < 256) (hm : m = manyN b0) (h0 : 0 < m) (hz : m ≤ z) (N : Nat) (L : List Nat)
    (hN : (m = 1 ∧ N = headN b0 ∧ L = [b0]) ∨ (m = 2 ∧ N = headN b0 * 64 + b1 % 64 ∧ L = [b0, b1]) ∨ (m = 3 ∧ N = (headN b0 * 64 + b1 % 64) * 64 + b2 % 64 ∧ L = [b0, b1, b2]) ∨
      (m = 4 ∧ N = ((headN b0 * 64 + b1 % 64) * 64 + b2 % 64) * 64 + b3 % 64 ∧ L = [b0, b1, b2, b3])) :
    (¬ ((Lib.decodeN z b0 b1 b2 b3).1 = 65533 ∧ (Lib.decodeN z b0 b1 b2 b3).2 < 3) ↔ sgN N = L) ∧ (¬ ((Lib.decodeN z b0 b1 b2 b3).1 = 65533 ∧ (Lib.decodeN z b0 b1 b2 b3).2 < 3) → Lib.decodeN z b0 b1 b2 b3 = (N, m)) := by
  have hc : (b0 < 128 ∧ m = 1 ∧ headN b0 = b0) ∨ ((192 ≤ b0 ∧ b0 ≤ 223) ∧ m = 2 ∧ headN b0 = b0 % 32) ∨ ((224 ≤ b0 ∧ b0 ≤ 239) ∧ m = 3 ∧ headN b0 = b0 % 16) ∨ ((240 ≤ b0 ∧ b0 ≤ 247) ∧ m = 4 ∧ headN b0 = b0 % 8) := by
    subst hm
    revert h0
    unfold manyN headN
    repeat' split
    all_goals omega
  clear hm
  rcases hc with ⟨hb, rfl, hh⟩ | ⟨hb, rfl, hh⟩ | ⟨hb, rfl, hh⟩ | ⟨hb, rfl, hh⟩
  · obtain ⟨rfl, rfl⟩ : N = b0 ∧ L = [b0] := by
      rcases hN with ⟨h, h1, h2⟩ | ⟨h, _⟩ | ⟨h, _⟩ | ⟨h, _⟩
      · exact ⟨h1.trans hh, h2⟩
      all_goals omega
    rw [Lib.decodeN, if_pos hb]
    unfold sgN encN
    rw [if_pos (by omega), if_pos hb]
    simp
    omega
  · obtain ⟨hNN, rfl⟩ : N = b0 % 32 * 64 + b1 % 64 ∧ L = [b0, b1] := by
      rcases hN with ⟨h, _⟩ | ⟨h, h1, h2⟩ | ⟨h, _⟩ | ⟨h, _⟩
      · omega
      · exact ⟨by rw [h1, hh], h2⟩
      all_goals omega
    have hNl : N < 2048 := by omega
    unfold sgN encN
    rw [if_pos (by omega)]
    by_cases h1 : b1 / 64 = 2
    · by_cases h2 : 128 ≤ N
      · rw [Lib.decodeN, if_neg (by omega), if_pos (by omega), ← hNN, if_pos h2, if_neg (by omega), if_pos hNl]
        simp
        omega
      · rw [Lib.decodeN, if_neg (by omega), if_pos (by omega), ← hNN, if_neg h2, if_pos (by omega)]
        simp
    · rw [Lib.decodeN, if_neg (by omega), if_neg (by omega), if_neg (by omega), if_neg (by omega)]
      by_cases h2 : 128 ≤ N
      · rw [if_neg (by omega), if_pos hNl]
        simp
        omega
      · rw [if_pos (by omega)]
        simp
  · obtain ⟨hNN, rfl⟩ : N = b0 % 16 * 4096 + b1 % 64 * 64 + b2 % 64 ∧ L = [b0, b1, b2] := by
      rcases hN with ⟨h, _⟩ | ⟨h, _⟩ | ⟨h, h1, h2⟩ | ⟨h, _⟩
      · omega
      · omega
      · exact ⟨by rw [h1, hh]; omega, h2⟩
      · omega
    have hNl : N < 65536 := by omega
    by_cases h1 : b1 / 64 = 2 ∧ b2 / 64 = 2
    · by_cases h2 : 2048 ≤ N ∧ (N < 55296 ∨ (57344 ≤ N ∧ N ≤ 1114111))
      · rw [Lib.decodeN, if_neg (by omega), if_neg (by omega), if_pos (by omega), ← hNN, if_pos h2]
        unfold sgN encN
        rw [if_pos (by omega), if_neg (by omega), if_neg (by omega), if_pos hNl]
        simp
        omega
      · rw [Lib.decodeN, if_neg (by omega), if_neg (by omega), if_pos (by omega), ← hNN, if_neg h2]
        unfold sgN encN
        by_cases h3 : N < 55296 ∨ (57343 < N ∧ N < 1114112)
        · rw [if_pos h3]
          by_cases h4 : N < 128
          · rw [if_pos h4]; simp
          · rw [if_neg h4, if_pos (by omega)]; simp
        · rw [if_neg h3]; simp
    · rw [Lib.decodeN, if_neg (by omega), if_neg (by omega), if_neg (by omega), if_neg (by omega)]
      unfold sgN encN
      by_cases h3 : N < 55296 ∨ (57343 < N ∧ N < 1114112)
      · rw [if_pos h3]
        by_cases h4 : N < 128
        · rw [if_pos h4]; simp
        · rw [if_neg h4]
          by_cases h5 : N < 2048
          · rw [if_pos h5]; simp
          · rw [if_neg h5, if_pos hNl]; simp; omega
      · rw [if_neg h3]; simp
  · obtain ⟨hNN, rfl⟩ : N = b0 % 8 * 262144 + b1 % 64 * 4096 + b2 % 64 * 64 + b3 % 64 ∧ L = [b0, b1, b2, b3] := by
      rcases hN with ⟨h, _⟩ | ⟨h, _⟩ | ⟨h, _⟩ | ⟨h, h1, h2⟩
      · omega
      · omega
      · omega
      · exact ⟨by rw [h1, hh]; omega, h2⟩
    by_cases h1 : b1 / 64 = 2 ∧ b2 / 64 = 2 ∧ b3 / 64 = 2
    · by_cases h2 : 65536 ≤ N ∧ (N < 55296 ∨ (57344 ≤ N ∧ N ≤ 1114111))
      · rw [Lib.decodeN, if_neg (by omega), if_neg (by omega), if_neg (by omega), if_pos (by omega), ← hNN, if_pos h2]
        unfold sgN encN
        rw [if_pos (by omega), if_neg (by omega), if_neg (by omega), if_neg (by omega)]
        simp
        omega
      · rw [Lib.decodeN, if_neg (by omega), if_neg (by omega), if_neg (by omega), if_pos (by omega), ← hNN, if_neg h2]
        unfold sgN encN
        by_cases h3 : N < 55296 ∨ (57343 < N ∧ N < 1114112)
        · rw [if_pos h3]
          by_cases h4 : N < 128
          · rw [if_pos h4]; simp
          · rw [if_neg h4]
            by_cases h5 : N < 2048
            · rw [if_pos h5]; simp
            · rw [if_neg h5, if_pos (by omega)]; simp
        · rw [if_neg h3]; simp
    · rw [Lib.decodeN, if_neg (by omega), if_neg (by omega), if_neg (by omega), if_neg (by omega)]
      unfold sgN encN
      by_cases h3 : N < 55296 ∨ (57343 < N ∧ N < 1114112)
      · rw [if_pos h3]
        by_cases h4 : N < 128
        · rw [if_pos h4]; simp
        · rw [if_neg h4]
          by_cases h5 : N < 2048
          · rw [if_pos h5]; simp
          · rw [if_neg h5]
            by_cases h6 : N < 65536
            · rw [if_pos h6]; simp
            · rw [if_neg h6]; simp; omega
      · rw [if_neg h3]; simp
theorem sgn_some (s : ByteArray) (i m : Nat) (hm : m = manyN (s.get! i).toNat) (h0 : 0 < m) (hle : i + m ≤ s.size) :
    (gsOk s (i : Int) ↔ sgN (accN s i (m - 1)) = pcN s i m) ∧ (gsOk s (i : Int) → Utf8.decode s i = (accN s i (m - 1), m)) := by
  have hi : (0 : Int) ≤ i ∧ (i : Int) < s.size := by omega
  unfold gsOk
  rw [Int.toNat_natCast, Lib.decode_at]
  simp only [hi, true_and]
  have h4 := manyN_le (s.get! i).toNat
  refine sgn_pure (s.size - i) _ _ _ _ m ((s.get! i).toNat_lt) ((s.get! _).toNat_lt) ((s.get! _).toNat_lt) ((s.get! _).toNat_lt) hm h0 (by omega) _ _ ?_
  rcases (show m = 1 ∨ m = 2 ∨ m = 3 ∨ m = 4 by omega) with rfl | rfl | rfl | rfl
  · exact .inl ⟨rfl, rfl, by simp [pcN, List.range_succ]⟩
  · exact .inr (.inl ⟨rfl, rfl, by simp [pcN, List.range_succ]⟩)
  · exact .inr (.inr (.inl ⟨rfl, rfl, by simp [pcN, List.range_succ]⟩))
  · exact .inr (.inr (.inr ⟨rfl, rfl, by simp [pcN, List.range_succ]⟩))
end Go.Proofs.YtcjamnfboifjeaaDoor

/-
  The signs of a text, plainly: one by one from a place on; a text that is right.
-/
namespace Go.Proofs.YtcjamnfboifjeaaDoor
open Go.RowKit
set_option linter.unusedVariables false

/-- The signs from a place on, none where there is a wrong one. -/
def restG (s : ByteArray) : Nat → Nat → Option (List Nat)
  | 0, _ => some []
  | f + 1, i => if i < s.size then (if gsOk s (i : Int) then (restG s f (i + (Utf8.decode s i).2)).map ((Utf8.decode s i).1 :: ·) else none) else some []
def restF (s : ByteArray) (i : Nat) : Option (List Nat) := restG s (s.size - i) i
theorem dec_pos (s : ByteArray) (i : Nat) : 1 ≤ (Utf8.decode s i).2 := Lib.width_pos s i
theorem restG_fuel (s : ByteArray) : ∀ f g i, s.size - i ≤ f → s.size - i ≤ g → restG s f i = restG s g i
  | 0, 0, _, _, _ => rfl
  | 0, g + 1, i, h, _ => by rw [restG, restG, if_neg (by omega)]
  | f + 1, 0, i, _, h => by rw [restG, restG, if_neg (by omega)]
  | f + 1, g + 1, i, h1, h2 => by
    rw [restG, restG]
    by_cases hi : i < s.size
    · have := dec_pos s i
      rw [if_pos hi, if_pos hi, restG_fuel s f g _ (by omega) (by omega)]
    · rw [if_neg hi, if_neg hi]
theorem restF_end (s : ByteArray) (i : Nat) (h : s.size ≤ i) : restF s i = some [] := by
  unfold restF
  rw [show s.size - i = 0 by omega]
  rfl
theorem restF_ok (s : ByteArray) (i : Nat) (h : i < s.size) (hok : gsOk s (i : Int)) : restF s i = (restF s (i + (Utf8.decode s i).2)).map ((Utf8.decode s i).1 :: ·) := by
  have := dec_pos s i
  unfold restF
  obtain ⟨f, hf⟩ : ∃ f, s.size - i = f + 1 := ⟨s.size - i - 1, by omega⟩
  rw [hf, restG, if_pos h, if_pos hok, restG_fuel s f _ _ (by omega) (Nat.le_refl _)]
theorem restF_bad (s : ByteArray) (i : Nat) (h : i < s.size) (hok : ¬ gsOk s (i : Int)) : restF s i = none := by
  unfold restF
  obtain ⟨f, hf⟩ : ∃ f, s.size - i = f + 1 := ⟨s.size - i - 1, by omega⟩
  rw [hf, restG, if_pos h, if_neg hok]
/-- A text is right. -/
def textOk (s : ByteArray) : Bool := (restF s 0).isSome
/-- The signs of a text, none if it isn't right. -/
def signsL (s : ByteArray) : List Nat := (restF s 0).getD []

theorem dec_65533 (s : ByteArray) (i : Nat) : ((Utf8.decode s i).1 = 65533 ∧ (Utf8.decode s i).2 < 3) ↔ ((Utf8.decode s i).1 = 65533 ∧ (Utf8.decode s i).2 = 1) := by
  rw [Lib.decode_at]
  have h0 := (s.get! i).toNat_lt
  have h1 := (s.get! (i + 1)).toNat_lt
  generalize (s.get! i).toNat = b0 at *
  generalize (s.get! (i + 1)).toNat = b1 at *
  unfold Lib.decodeN
  repeat' split
  all_goals simp
  all_goals omega
theorem gsOk_nat (s : ByteArray) (i : Nat) (h : i < s.size) : gsOk s (i : Int) ↔ ¬ ((Utf8.decode s i).1 = 65533 ∧ (Utf8.decode s i).2 = 1) := by
  unfold gsOk
  rw [Int.toNat_natCast, ← dec_65533]
  constructor
  · exact fun h => h.2.2
  · exact fun h => ⟨by omega, by omega, h⟩
theorem valid_rest (s : ByteArray) : ∀ n i, s.size - i ≤ n → Lib.validD (s.data.toList.drop i) = (restF s i).isSome := by
  have hl : s.data.toList.length = s.size := rfl
  intro n
  induction n with
  | zero =>
    intro i h
    rw [restF_end s i (by omega), List.drop_eq_nil_of_le (by omega)]
    rfl
  | succ n ih =>
    intro i h
    by_cases hi : i < s.size
    · have hne : s.data.toList.drop i ≠ [] := by
        intro h
        have := congrArg List.length h
        simp at this
        have e : s.data.size = s.size := rfl
        omega
      have hp := dec_pos s i
      rw [Lib.validD_step _ hne, Lib.decodeL_drop, List.drop_drop]
      by_cases hok : gsOk s (i : Int)
      · rw [if_neg ((gsOk_nat s i hi).1 hok), restF_ok s i hi hok, ih _ (by omega)]
        simp
      · rw [if_pos (by
          have := hok
          rw [gsOk_nat s i hi] at this
          exact Classical.not_not.1 this), restF_bad s i hi hok]
        rfl
    · rw [restF_end s i (by omega), List.drop_eq_nil_of_le (by omega)]
      rfl
theorem valid_textOk (s : ByteArray) : Lib.validD s.data.toList = textOk s := by
  have := valid_rest s _ 0 (Nat.le_refl _)
  simpa [textOk] using this
theorem textOk_signs (s : ByteArray) : textOk s = (decide (s.size = 0) || decide (0 < (signsL s).length)) := by
  unfold textOk signsL
  by_cases h0 : s.size = 0
  · rw [restF_end s 0 (by omega)]; simp [h0]
  · by_cases hok : gsOk s ((0 : Nat) : Int)
    · rw [restF_ok s 0 (by omega) hok]
      cases restF s (0 + (Utf8.decode s 0).2) <;> simp [h0]
    · rw [restF_bad s 0 (by omega) hok]; simp [h0]

/-- What has been read ahead of a place. -/
def ReadTo (s : ByteArray) (i : Nat) (pre : List Nat) : Prop := i ≤ s.size ∧ pre.length ≤ i ∧ restF s 0 = (restF s i).map (pre ++ ·)
theorem readTo_zero (s : ByteArray) : ReadTo s 0 [] := ⟨Nat.zero_le _, Nat.le_refl _, by cases restF s 0 <;> simp⟩
theorem dec_le (s : ByteArray) (i : Nat) (h : i < s.size) : i + (Utf8.decode s i).2 ≤ s.size := by
  rw [Lib.decode_at]
  unfold Lib.decodeN
  repeat' split
  all_goals simp
  all_goals omega
theorem readTo_next {s : ByteArray} {i : Nat} {pre : List Nat} (h : ReadTo s i pre) (hi : i < s.size) (hok : gsOk s (i : Int)) : ReadTo s (i + (Utf8.decode s i).2) (pre ++ [(Utf8.decode s i).1]) := by
  have hp := dec_pos s i
  refine ⟨dec_le s i hi, by have := h.2.1; simp; omega, ?_⟩
  rw [h.2.2, restF_ok s i hi hok]
  cases restF s (i + (Utf8.decode s i).2) <;> simp
theorem readTo_bad {s : ByteArray} {i : Nat} {pre : List Nat} (h : ReadTo s i pre) (hi : i < s.size) (hok : ¬ gsOk s (i : Int)) : signsL s = [] ∧ textOk s = false := by
  unfold signsL textOk
  rw [h.2.2, restF_bad s i hi hok]
  exact ⟨rfl, rfl⟩
theorem readTo_end {s : ByteArray} {i : Nat} {pre : List Nat} (h : ReadTo s i pre) (hi : ¬ i < s.size) : signsL s = pre ∧ textOk s = true := by
  unfold signsL textOk
  rw [h.2.2, restF_end s i (by omega)]
  simp
theorem signsL_len (s : ByteArray) : (signsL s).length ≤ s.size := by
  have : ∀ f i l, restG s f i = some l → l.length ≤ f := by
    intro f
    induction f with
    | zero => intro i l h; simp [restG] at h; subst h; simp
    | succ f ih =>
      intro i l h
      rw [restG] at h
      split at h
      · split at h
        · cases hr : restG s f (i + (Utf8.decode s i).2) with
          | none => rw [hr] at h; simp at h
          | some l' =>
            rw [hr] at h
            simp at h
            subst h
            have := ih _ _ hr
            simp; omega
        · cases h
      · simp at h; subst h; simp
  unfold signsL
  cases h : restF s 0 with
  | none => simp
  | some l => have := this _ _ _ h; simpa using this
end Go.Proofs.YtcjamnfboifjeaaDoor

/-
  A right value, plainly.
-/
namespace Go.Proofs.YtcjamnfboifjeaaDoor
open Go.RowKit
set_option linter.unusedVariables false

/-- A number of 64 bits. -/
def inR (n : Int) : Prop := -9223372036854775808 ≤ n ∧ n ≤ 9223372036854775807
instance (n : Int) : Decidable (inR n) := by unfold inR; infer_instance
/-- A number ten times, so often, as long as it is one of 64 bits. -/
def tens : Int → Nat → Option Int
  | n, 0 => some n
  | n, k + 1 => if inR (n * 10) then tens (n * 10) k else none
theorem tens_zero : ∀ k, tens 0 k = some 0
  | 0 => rfl
  | k + 1 => by unfold tens; rw [Int.zero_mul, if_pos (by unfold inR; omega)]; exact tens_zero k
/-- A right decimal number. -/
def decOk (n e : Int) : Prop := -20 ≤ e ∧ e ≤ 20 ∧ e ≠ 0 ∧ -999999999999999999 ≤ n ∧ n ≤ 999999999999999999 ∧ Int.tmod n 10 ≠ 0 ∧ (0 < e → tens n e.toNat = none)
instance (n e : Int) : Decidable (decOk n e) := by unfold decOk; infer_instance
/-- Two keys are one, by what the reference compares. -/
def keyEq (a b : V) : Prop := a.k = b.k ∧ a.n = b.n ∧ a.s = b.s
instance (a b : V) : Decidable (keyEq a b) := by unfold keyEq; infer_instance
def isKeyB (v : V) : Bool := decide (v.k = 5 ∨ v.k = 3)
/-- Keys at even places, no two of them one. -/
def pairsTo (R : V → V → Prop) (l : List V) (m : Nat) : Prop := ∀ i (h : i < l.length), i < m → i % 2 = 0 → isKeyB l[i] = true ∧ ∀ k (hk : k < i), k % 2 = 0 → ¬ R (l[k]'(by omega)) l[i]
def pairsOk (l : List V) : Prop := pairsTo keyEq l l.length ∧ l.length % 2 = 0 ∧ l.length ≤ 300
/-- What a value is but for its kids. -/
def nodeOk (v : V) : Prop :=
  if v.k = 0 ∨ v.k = 1 ∨ v.k = 2 ∨ v.k = 7 ∨ v.k = 8 then v.n = 0 ∧ v.e = 0 ∧ v.s.size = 0
  else if v.k = 3 then v.e = 0 ∧ v.s.size = 0
  else if v.k = 4 then decOk v.n v.e ∧ v.s.size = 0
  else if v.k = 5 then v.n = 0 ∧ v.e = 0 ∧ textOk v.s = true ∧ v.s.size ≤ 2000
  else if v.k = 6 then v.n = 0 ∧ v.e = 0 ∧ v.s.size ≤ 2000
  else if v.k = 9 then 0 ≤ v.n ∧ v.n ≤ 1000000 ∧ v.e = 0 ∧ v.s.size = 0
  else False
/-- Its kids, one by one apart. -/
def kidsOk (v : V) : Prop := if v.k = 7 then True else if v.k = 9 then v.kids.length = 1 else if v.k = 8 then pairsOk v.kids else v.kids.length = 0
def ownOk (v : V) : Prop := nodeOk v ∧ kidsOk v
noncomputable instance (p : Prop) : Decidable p := Classical.propDecidable p
mutual
/-- A value is right, at most so many kids deep. -/
def V.right : Int → V → Prop
  | d, .mk k n e s ks => 0 ≤ d ∧ ownOk (.mk k n e s ks) ∧ Vs.right (d - 1) ks
def Vs.right : Int → List V → Prop
  | _, [] => True
  | d, v :: r => V.right d v ∧ Vs.right d r
end
theorem V.right_eq (d : Int) (v : V) : V.right d v ↔ 0 ≤ d ∧ ownOk v ∧ Vs.right (d - 1) v.kids := by cases v; simp [V.right, V.kids]
theorem Vs.right_iff (d : Int) : ∀ l : List V, Vs.right d l ↔ ∀ i (h : i < l.length), V.right d l[i]
  | [] => by simp [Vs.right]
  | v :: r => by
    simp only [Vs.right]
    rw [Vs.right_iff d r]
    constructor
    · rintro ⟨h1, h2⟩ i hi
      cases i with
      | zero => exact h1
      | succ i => exact h2 i (by simpa using hi)
    · intro h
      exact ⟨h 0 (by simp), fun i hi => h (i + 1) (by simpa using hi)⟩
theorem Vs.right_take (d : Int) (l : List V) (h : Vs.right d (l.take l.length)) : Vs.right d l := by rwa [List.take_length] at h
theorem Vs.right_step (d : Int) (l : List V) (j : Nat) (hj : j < l.length) (h : Vs.right d (l.take j)) (hv : V.right d l[j]) : Vs.right d (l.take (j + 1)) := by
  rw [Vs.right_iff] at h ⊢
  intro i hi
  rw [List.length_take] at hi
  by_cases e : i = j
  · subst e; simpa using hv
  · have := h i (by rw [List.length_take]; omega)
    simpa using this
/-- ValueOk. -/
def okV (v : V) : Prop := V.right 12 v ∧ v.nodes ≤ 300

theorem wrap_ten {n : Int} (hn : inR n) : (Int.tdiv (wrap64 (n * 10)) 10 = n) ↔ inR (n * 10) := by
  unfold inR at *
  have hw := wrap64_eq (n * 10)
  constructor
  · intro h
    have h2 := Int.tmod_add_mul_tdiv (wrap64 (n * 10)) 10
    have h3 : -10 < Int.tmod (wrap64 (n * 10)) 10 ∧ Int.tmod (wrap64 (n * 10)) 10 < 10 := by
      constructor
      · have := Int.lt_tmod_of_pos (wrap64 (n * 10)) (show (0 : Int) < 10 by omega); omega
      · exact Int.tmod_lt_of_pos _ (by omega)
    rw [h] at h2
    omega
  · intro h
    rw [show wrap64 (n * 10) = n * 10 by omega, Int.mul_tdiv_cancel _ (by omega)]
end Go.Proofs.YtcjamnfboifjeaaDoor

/-
  Right numbers, and the greatest whole number that isn't above one, plainly.
-/
namespace Go.Proofs.YtcjamnfboifjeaaDoor
open Go.RowKit
set_option linter.unusedVariables false
set_option linter.unusedSimpArgs false

/-- A right number. -/
def numOk (v : V) : Prop := (v.k = 3 ∨ v.k = 4) ∧ okV v
theorem okV_leaf {v : V} (h : numOk v) : v.kids.length = 0 ∧ v.s.size = 0 ∧ (v.k = 3 → v.e = 0) ∧ (v.k = 4 → decOk v.n v.e) := by
  obtain ⟨hk, h1, _⟩ := h
  obtain ⟨_, ⟨h2, h3⟩, _⟩ := (V.right_eq _ _).1 h1
  unfold nodeOk at h2
  unfold kidsOk at h3
  rcases hk with hk | hk <;> simp [hk] at h2 h3
  · exact ⟨by rw [h3]; rfl, by rw [h2.2]; rfl, fun _ => h2.1, fun h => by omega⟩
  · exact ⟨by rw [h3]; rfl, by rw [h2.2]; rfl, fun h => by omega, fun _ => h2.1⟩
theorem ten_div (x : Int) (j : Nat) : x / 10 ^ j / 10 = x / 10 ^ (j + 1) := by
  rw [Int.ediv_ediv_of_nonneg (Int.le_of_lt (Int.pow_pos (by omega))), Int.pow_succ]
theorem floor_ten (x : Int) : (Int.tmod x 10 < 0 → Int.tdiv x 10 - 1 = x / 10) ∧ (¬ Int.tmod x 10 < 0 → Int.tdiv x 10 = x / 10) := by
  have h1 := Int.tmod_add_mul_tdiv x 10
  have h3 : -10 < Int.tmod x 10 ∧ Int.tmod x 10 < 10 := by
    constructor
    · have := Int.lt_tmod_of_pos x (show (0 : Int) < 10 by omega); omega
    · exact Int.tmod_lt_of_pos _ (by omega)
  omega
theorem tdiv_sign (x : Int) : Int.tdiv x 10 = if 0 ≤ x then x / 10 else -((-x) / 10) := by
  split
  · rename_i h; exact Int.tdiv_eq_ediv_of_nonneg h
  · rename_i h
    have e : x = -(-x) := by omega
    conv => lhs; rw [e]
    rw [Int.neg_tdiv, Int.tdiv_eq_ediv_of_nonneg (by omega)]
/-- What is left behind j steps of cutting off a digit. -/
def cutD (n : Int) (j : Nat) : Int := if 0 ≤ n then n / 10 ^ j else -((-n) / 10 ^ j)
theorem cutD_step (n : Int) (j : Nat) : Int.tdiv (cutD n j) 10 = cutD n (j + 1) := by
  rw [tdiv_sign]
  unfold cutD
  have hp : (0 : Int) ≤ 10 ^ j := Int.le_of_lt (Int.pow_pos (by omega))
  by_cases h : 0 ≤ n
  · have h1 : 0 ≤ n / 10 ^ j := Int.ediv_nonneg h hp
    simp only [if_pos h, if_pos h1, ten_div]
  · have h1 : 0 ≤ (-n) / 10 ^ j := Int.ediv_nonneg (by omega) hp
    simp only [if_neg h]
    by_cases h2 : 0 ≤ -(-n / 10 ^ j)
    · have h3 : -n / 10 ^ j = 0 := by omega
      rw [if_pos h2, ← ten_div, h3]; rfl
    · rw [if_neg h2, Int.neg_neg, ten_div]
theorem floor_neg {a D : Int} (hD : 0 < D) (h : a % D ≠ 0) : (-a) / D = -(a / D) - 1 := by
  have h1 := Int.emod_add_mul_ediv a D
  have h2 := Int.emod_nonneg a (by omega : D ≠ 0)
  have h3 := Int.emod_lt_of_pos a hD
  refine ((Int.ediv_emod_unique (r := D - a % D) hD).2 ⟨?_, by omega, by omega⟩).1
  rw [Int.mul_sub, Int.mul_neg]
  omega
theorem dec_floor {n : Int} {k : Nat} (hk : 1 ≤ k) (hm : Int.tmod n 10 ≠ 0) : (if n < 0 then cutD n k - 1 else cutD n k) = n / 10 ^ k := by
  have hp : (0 : Int) < 10 ^ k := Int.pow_pos (by omega)
  unfold cutD
  by_cases h : n < 0
  · rw [if_pos h, if_neg (by omega)]
    have hd : (-n) % 10 ^ k ≠ 0 := fun hz => by
      have h1 : (10 : Int) ∣ 10 ^ k := ⟨10 ^ (k - 1), by
        obtain ⟨m, rfl⟩ : ∃ m, k = m + 1 := ⟨k - 1, by omega⟩
        rw [Int.pow_succ, Int.mul_comm, Nat.add_sub_cancel]⟩
      have h2 := Int.emod_emod_of_dvd (-n) h1
      rw [hz] at h2
      have h3 := Int.tmod_add_mul_tdiv n 10
      apply hm
      have h4 : -10 < Int.tmod n 10 ∧ Int.tmod n 10 < 10 := by
        constructor
        · have := Int.lt_tmod_of_pos n (show (0 : Int) < 10 by omega); omega
        · exact Int.tmod_lt_of_pos _ (by omega)
      omega
    have h5 := floor_neg hp hd
    rw [Int.neg_neg] at h5
    exact h5.symm
  · rw [if_neg h, if_pos (by omega)]
/-- Whole. -/
noncomputable def wholeB (v : V) : Bool := decide (numOk v ∧ ¬ 0 < v.e)
noncomputable def wholeN (v : V) : Int := if numOk v ∧ ¬ 0 < v.e then v.n / 10 ^ (-v.e).toNat else 0
theorem whole_no {v : V} (h : ¬ (numOk v ∧ ¬ 0 < v.e)) : wholeB v = false ∧ wholeN v = 0 := ⟨decide_eq_false h, if_neg h⟩
theorem whole_yes {v : V} (h : numOk v ∧ ¬ 0 < v.e) : wholeB v = true ∧ wholeN v = v.n / 10 ^ (-v.e).toNat := ⟨decide_eq_true h, if_pos h⟩
end Go.Proofs.YtcjamnfboifjeaaDoor

/-
  DecText and ReadDec, plainly: a number's digits.
-/
namespace Go.Proofs.YtcjamnfboifjeaaDoor
open Go.RowKit
set_option linter.unusedVariables false

/-- The digits of a number, none for 0. -/
def dd (q : Nat) : List UInt8 := if q = 0 then [] else Lib.decDigits q
theorem dd_step (q : Nat) (h : q ≠ 0) : dd (q / 10) ++ [UInt8.ofNat (48 + q % 10)] = dd q := by
  unfold dd
  rw [if_neg h]
  by_cases h1 : q < 10
  · rw [if_pos (by omega), Lib.decDigits, dif_pos h1, show q % 10 = q by omega]; rfl
  · rw [if_neg (by omega)]
    conv => rhs; rw [Lib.decDigits, dif_neg h1]
theorem dd_pos (q : Nat) (h : q ≠ 0) : dd q = Lib.decDigits q := by unfold dd; rw [if_neg h]
theorem itoa_pos (n : Nat) : Lib.itoa (n : Int) = Lib.decDigits n := by
  unfold Lib.itoa
  rw [if_neg (by omega), Int.toNat_natCast]
theorem itoa_neg (n : Nat) (h : 0 < n) : Lib.itoa (-(n : Int)) = 45 :: Lib.decDigits n := by
  unfold Lib.itoa
  rw [if_pos (by omega), Int.natAbs_neg, Int.natAbs_natCast]
theorem dig_one : ∀ d : Fin 10, (⟨#[48, 49, 50, 51, 52, 53, 54, 55, 56, 57]⟩ : ByteArray).extract d.val (d.val + 1) = str [UInt8.ofNat (48 + d.val)] := by decide +kernel
theorem dig_at (d : Nat) (h : d < 10) : (⟨#[48, 49, 50, 51, 52, 53, 54, 55, 56, 57]⟩ : ByteArray).extract d (d + 1) = str [UInt8.ofNat (48 + d)] := dig_one ⟨d, h⟩
theorem nDigits_le (u k : Nat) (h : u < 10 ^ k) (hk : 1 ≤ k) : Lib.nDigits u ≤ k := by
  by_cases h0 : u = 0
  · subst h0; rw [Lib.nDigits_small (by omega)]; exact hk
  · refine Nat.le_of_not_lt fun hh => ?_
    have : 10 ^ (Lib.nDigits u - 1) ≤ u := by
      clear h hk hh
      induction u using Nat.strongRecOn with
      | ind u ih =>
        by_cases h1 : u < 10
        · rw [Lib.nDigits_small h1]; simp; omega
        · rw [Lib.nDigits_big h1]
          have := ih (u / 10) (by omega) (by omega)
          have hp := Lib.nDigits_pos (u / 10)
          obtain ⟨m, hm⟩ : ∃ m, Lib.nDigits (u / 10) = m + 1 := ⟨Lib.nDigits (u / 10) - 1, by omega⟩
          rw [hm] at this ⊢
          simp only [Nat.add_sub_cancel] at *
          rw [Nat.pow_succ]
          omega
    have h2 : 10 ^ k ≤ 10 ^ (Lib.nDigits u - 1) := Nat.pow_le_pow_right (by omega) (by omega)
    omega
theorem dec_len (u : Nat) (h : u < 10000000000000000000) : (Lib.decDigits u).length ≤ 19 := by
  rw [Lib.decDigits_length]
  exact nDigits_le u 19 (by omega) (by omega)
theorem dec_ne (u : Nat) : Lib.decDigits u ≠ [] := by
  intro h
  have := Lib.decDigits_length u
  have h2 := Lib.nDigits_pos u
  rw [h] at this
  simp at this
  omega
theorem dec_digit (u : Nat) : ∀ b ∈ Lib.decDigits u, 48 ≤ b.toNat ∧ b.toNat ≤ 57 := by
  induction u using Nat.strongRecOn with
  | ind u ih =>
    intro b hb
    rw [Lib.decDigits] at hb
    split at hb
    · simp only [List.mem_singleton] at hb
      subst hb
      rw [UInt8.toNat_ofNat']
      omega
    · rcases List.mem_append.1 hb with hb | hb
      · exact ih (u / 10) (by omega) b hb
      · simp only [List.mem_singleton] at hb
        subst hb
        rw [UInt8.toNat_ofNat']
        omega
/-- The number of some digits. -/
def dval (l : List UInt8) : Nat := l.foldl (fun n b => 10 * n + (b.toNat - 48)) 0
theorem dval_snoc (l : List UInt8) (b : UInt8) : dval (l ++ [b]) = 10 * dval l + (b.toNat - 48) := by simp [dval]
theorem dval_dec (u : Nat) : dval (Lib.decDigits u) = u := by
  induction u using Nat.strongRecOn with
  | ind u ih =>
    rw [Lib.decDigits]
    split
    · simp [dval]; omega
    · rw [dval_snoc, ih (u / 10) (by omega), UInt8.toNat_ofNat']
      omega
theorem parse_dec (l : List UInt8) : ∀ acc, (∀ b ∈ l, 48 ≤ b.toNat ∧ b.toNat ≤ 57) → l.foldl (fun n b => 10 * n + (b.toNat - 48)) acc < 18446744073709551616 → Lib.parseUint10 acc l = .ok (l.foldl (fun n b => 10 * n + (b.toNat - 48)) acc) := by
  induction l with
  | nil => intro acc _ _; rfl
  | cons b l ih =>
    intro acc hd hlt
    have hb := hd b (by simp)
    have hmono : ∀ (r : List UInt8) (a : Nat), a ≤ r.foldl (fun n b => 10 * n + (b.toNat - 48)) a := by
      intro r
      induction r with
      | nil => intro a; exact Nat.le_refl _
      | cons x r ih2 => intro a; rw [List.foldl_cons]; exact Nat.le_trans (by omega) (ih2 _)
    have hm := hmono l (10 * acc + (b.toNat - 48))
    rw [List.foldl_cons] at hlt
    rw [Lib.parseUint10, if_pos hb, if_neg (by omega), if_neg (by omega), List.foldl_cons, Nat.mul_comm acc 10]
    exact ih _ (fun x hx => hd x (by simp [hx])) hlt
theorem parseMag_dec (u : Nat) (h : u < 18446744073709551616) : Lib.parseMag (Lib.decDigits u) = .ok u := by
  unfold Lib.parseMag
  rw [if_neg (dec_ne u)]
  have hv := dval_dec u
  unfold dval at hv
  rw [parse_dec _ 0 (dec_digit u) (by rw [hv]; exact h), hv]
theorem atoi_itoa (v : Int) (h : -9223372036854775808 ≤ v ∧ v ≤ 9223372036854775807) : Lib.atoiAll (Lib.itoa v) = .ok v := by
  by_cases h0 : v < 0
  · obtain ⟨u, rfl⟩ : ∃ u : Nat, v = -(u : Int) := ⟨v.natAbs, by omega⟩
    rw [itoa_neg u (by omega)]
    unfold Lib.atoiAll
    have e : (45 : UInt8).toNat = 45 := rfl
    simp only [e, or_true, if_true]
    rw [parseMag_dec u (by omega)]
    simp
    omega
  · obtain ⟨u, rfl⟩ := Int.eq_ofNat_of_zero_le (show 0 ≤ v by omega)
    rw [itoa_pos]
    have hne := dec_ne u
    have hd := dec_digit u
    have hp := parseMag_dec u (by omega)
    revert hne hd hp
    generalize Lib.decDigits u = l
    intro hne hd hp
    cases l with
    | nil => exact absurd rfl hne
    | cons c r =>
      have hc := hd c (by simp)
      unfold Lib.atoiAll
      simp only [show ¬ (c.toNat = 43 ∨ c.toNat = 45) by omega, if_false]
      rw [hp]
      simp only [show ¬ c.toNat = 45 by omega, if_false, not_false_eq_true, true_and, false_and]
      rw [if_neg (by omega)]
end Go.Proofs.YtcjamnfboifjeaaDoor

/-
  The order of two numbers, plainly: their digits without noughts at the end.
-/
namespace Go.Proofs.YtcjamnfboifjeaaDoor
open Go.RowKit
set_option linter.unusedVariables false
set_option linter.unusedSimpArgs false

/-- Digits without the noughts at their end. -/
def cutZ (l : List UInt8) : List UInt8 := Lib.trimRightB l 48
theorem dropW_all : ∀ l : List UInt8, l.dropWhile (· == 48) = [] → ∀ b ∈ l, b = 48
  | [], _, b, hb => by cases hb
  | a :: l, h, b, hb => by
    by_cases ha : a = 48
    · subst ha
      rw [List.dropWhile_cons_of_pos (by rfl)] at h
      rcases List.mem_cons.1 hb with rfl | hb
      · rfl
      · exact dropW_all l h b hb
    · rw [List.dropWhile_cons_of_neg (by simpa using ha)] at h
      cases h
theorem dropW_split : ∀ l : List UInt8, l = List.replicate (l.length - (l.dropWhile (· == 48)).length) 48 ++ l.dropWhile (· == 48)
  | [] => rfl
  | a :: l => by
    by_cases ha : a = 48
    · subst ha
      rw [List.dropWhile_cons_of_pos (by rfl)]
      have h := dropW_split l
      have hl : (l.dropWhile (· == 48)).length ≤ l.length := (List.dropWhile_sublist _).length_le
      rw [List.length_cons, show l.length + 1 - (l.dropWhile (· == 48)).length = l.length - (l.dropWhile (· == 48)).length + 1 by omega, List.replicate_succ, List.cons_append, ← h]
    · rw [List.dropWhile_cons_of_neg (by simpa using ha)]
      simp
theorem dropW_head {l r : List UInt8} {a : UInt8} (h : l.dropWhile (· == 48) = a :: r) : a ≠ 48 := by
  induction l with
  | nil => cases h
  | cons b l ih =>
    by_cases hb : b = 48
    · subst hb
      rw [List.dropWhile_cons_of_pos (by rfl)] at h
      exact ih h
    · rw [List.dropWhile_cons_of_neg (by simpa using hb)] at h
      injection h with h1 h2
      subst h1
      exact hb
theorem cutZ_len (l : List UInt8) : (cutZ l).length ≤ l.length := by
  have : (l.reverse.dropWhile (· == 48)).length ≤ l.reverse.length := (List.dropWhile_sublist _).length_le
  unfold cutZ Lib.trimRightB
  rw [List.length_reverse]
  rw [List.length_reverse] at this
  exact this
theorem cutZ_split (l : List UInt8) : l = cutZ l ++ List.replicate (l.length - (cutZ l).length) 48 := by
  have h := congrArg List.reverse (dropW_split l.reverse)
  rw [List.reverse_reverse, List.reverse_append, List.reverse_replicate, List.length_reverse] at h
  unfold cutZ Lib.trimRightB
  rw [List.length_reverse]
  exact h
/-- The last of them is none. -/
theorem cutZ_last {l r : List UInt8} {a : UInt8} (h : cutZ l = r ++ [a]) : a ≠ 48 := by
  have h2 := congrArg List.reverse h
  unfold cutZ Lib.trimRightB at h2
  rw [List.reverse_reverse, List.reverse_append, List.reverse_singleton, List.singleton_append] at h2
  exact dropW_head h2
theorem cutZ_nil {l : List UInt8} (h : cutZ l = []) : ∀ b ∈ l, b = 48 := by
  have h2 := congrArg List.reverse h
  unfold cutZ Lib.trimRightB at h2
  rw [List.reverse_reverse] at h2
  intro b hb
  exact dropW_all l.reverse h2 b (by simpa using hb)
theorem dval_zeros : ∀ l : List UInt8, (∀ b ∈ l, b = 48) → dval l = 0 := by
  have h : ∀ l : List UInt8, (∀ b ∈ l, b = 48) → l.foldl (fun n b => 10 * n + (b.toNat - 48)) 0 = 0 := by
    intro l
    induction l with
    | nil => intro _; rfl
    | cons a l ih =>
      intro h
      have ha := h a (by simp)
      subst ha
      rw [List.foldl_cons]
      exact ih (fun b hb => h b (by simp [hb]))
  exact h
theorem cutZ_dec {u : Nat} (h : u ≠ 0) : cutZ (Lib.decDigits u) ≠ [] := by
  intro h2
  have := dval_zeros _ (cutZ_nil h2)
  rw [dval_dec] at this
  exact h this

theorem bl_tri : ∀ l m : List UInt8, (Op.bytesLess l m = true ∧ Op.bytesLess m l = false ∧ l ≠ m) ∨ (Op.bytesLess l m = false ∧ Op.bytesLess m l = false ∧ l = m) ∨ (Op.bytesLess l m = false ∧ Op.bytesLess m l = true ∧ l ≠ m)
  | [], [] => .inr (.inl ⟨rfl, rfl, rfl⟩)
  | [], b :: m => .inl ⟨rfl, rfl, by simp⟩
  | a :: l, [] => .inr (.inr ⟨rfl, rfl, by simp⟩)
  | a :: l, b :: m => by
    have ih := bl_tri l m
    by_cases h1 : a < b
    · have h2 : ¬ b < a := by intro h; have := UInt8.lt_iff_toNat_lt.1 h1; have := UInt8.lt_iff_toNat_lt.1 h; omega
      have h3 : a ≠ b := by rintro rfl; exact h2 h1
      exact .inl ⟨by simp [Op.bytesLess, h1], by simp [Op.bytesLess, h2, Ne.symm h3], by simp [h3]⟩
    · by_cases h2 : b < a
      · have h3 : a ≠ b := by rintro rfl; exact h1 h2
        exact .inr (.inr ⟨by simp [Op.bytesLess, h1, h3], by simp [Op.bytesLess, h2], by simp [h3]⟩)
      · have h3 : a = b := by
          apply UInt8.toNat_inj.1
          have e1 : ¬ a.toNat < b.toNat := fun h => h1 (UInt8.lt_iff_toNat_lt.2 h)
          have e2 : ¬ b.toNat < a.toNat := fun h => h2 (UInt8.lt_iff_toNat_lt.2 h)
          omega
        subst h3
        simpa [Op.bytesLess] using ih
theorem lessT_swap (a b : ByteArray) : lessT b a = - lessT a b := by
  unfold lessT
  rcases bl_tri a.toList b.toList with ⟨h1, h2, h3⟩ | ⟨h1, h2, h3⟩ | ⟨h1, h2, h3⟩
  · have h4 : (b.toList == a.toList) = false := by simpa using Ne.symm h3
    simp [h1, h2, h4]
  · have h4 : (b.toList == a.toList) = true := by simpa using h3.symm
    have h5 : (a.toList == b.toList) = true := by simpa using h3
    rw [h1, h2, h4, h5]
    rfl
  · have h4 : (a.toList == b.toList) = false := by simpa using h3
    simp [h1, h2, h4]
theorem lessI_swap (a b : Int) : lessI b a = - lessI a b := by
  unfold lessI
  repeat' split
  all_goals omega
theorem lessI_range (a b : Int) : -1 ≤ lessI a b ∧ lessI a b ≤ 1 := by
  unfold lessI
  repeat' split
  all_goals omega
theorem lessT_range (a b : ByteArray) : -1 ≤ lessT a b ∧ lessT a b ≤ 1 := by
  unfold lessT
  repeat' split
  all_goals omega

/-- The digits of a number. -/
def V.digs (v : V) : List UInt8 := Lib.decDigits v.n.natAbs
/-- How many digits a number has ahead of its point. -/
def V.mag (v : V) : Int := (v.digs.length : Int) + v.e
/-- The order of the sizes of two numbers that are not 0. -/
def sizeR (a b : V) : Int := if lessI a.mag b.mag = 0 then lessT (str (cutZ a.digs)) (str (cutZ b.digs)) else lessI a.mag b.mag
theorem sizeR_swap (a b : V) : sizeR b a = - sizeR a b := by
  unfold sizeR
  rw [lessI_swap a.mag b.mag, lessT_swap (str (cutZ a.digs)) (str (cutZ b.digs))]
  by_cases h : lessI a.mag b.mag = 0
  · rw [if_pos (by omega), if_pos h]
  · rw [if_neg (by omega), if_neg h]
theorem sizeR_range (a b : V) : -1 ≤ sizeR a b ∧ sizeR a b ≤ 1 := by
  have := lessI_range a.mag b.mag
  have := lessT_range (str (cutZ a.digs)) (str (cutZ b.digs))
  unfold sizeR
  split <;> omega
/-- A number's sign. -/
def sgR (v : V) : Int := lessI v.n 0
theorem sgR_cases (v : V) : (sgR v = -1 ∧ v.n < 0) ∨ (sgR v = 0 ∧ v.n = 0) ∨ (sgR v = 1 ∧ 0 < v.n) := by
  unfold sgR lessI
  repeat' split
  all_goals omega
/-- CompareNum. -/
noncomputable def cnR (a b : V) : Int := if numOk a ∧ numOk b then (if sgR a ≠ sgR b ∨ sgR a = 0 then lessI (sgR a) (sgR b) else sgR a * sizeR a b) else 2
theorem cnR_no {a b : V} (h : ¬ (numOk a ∧ numOk b)) : cnR a b = 2 := if_neg h
theorem cnR_sign {a b : V} (h : numOk a ∧ numOk b) (h2 : sgR a ≠ sgR b ∨ sgR a = 0) : cnR a b = lessI (sgR a) (sgR b) := by unfold cnR; rw [if_pos h, if_pos h2]
theorem cnR_pos {a b : V} (h : numOk a ∧ numOk b) (h1 : sgR a = 1) (h2 : sgR b = 1) : cnR a b = sizeR a b := by
  unfold cnR; rw [if_pos h, if_neg (by omega), h1]; omega
theorem cnR_neg {a b : V} (h : numOk a ∧ numOk b) (h1 : sgR a = -1) (h2 : sgR b = -1) : cnR a b = sizeR b a := by
  unfold cnR; rw [if_pos h, if_neg (by omega), h1, sizeR_swap a b]; omega
/-- The reference's digits, and its power. -/
def V.cutE (v : V) : Int := v.e + ((v.digs.length - (cutZ v.digs).length : Nat) : Int)
theorem V.cut_mag (v : V) : ((cutZ v.digs).length : Int) + v.cutE = v.mag := by
  have := cutZ_len v.digs
  unfold V.cutE V.mag
  omega
theorem numOk_n {v : V} (h : numOk v) : -20 ≤ v.e ∧ v.e ≤ 20 := by
  obtain ⟨h1, h2, h3, h4⟩ := okV_leaf h
  rcases h.1 with hk | hk
  · have := h3 hk; omega
  · have := h4 hk
    unfold decOk at this
    omega
end Go.Proofs.YtcjamnfboifjeaaDoor
