/-
  The texts on which the last one leans, part 3: DrawV, DrawR, DrawN, DrawM, DrawA, CopyS, Less, Ord.
-/
import Derived.Test.YtcjamnfboifjeaaDoorPLFnSortedb
import Derived.Deep.RegionLaw
import Derived.Deep.AppendLies
import Derived.Deep.CutRange
/-
  The draws of values: a value without kids.
-/
namespace Go.Proofs.YtcjamnfboifjeaaDoor
open Go.RowKit
set_option linter.unusedVariables false
set_option linter.unusedSimpArgs false
set_option maxRecDepth 100000

theorem own_low {w : World} {base base' e size n : Nat} {v : Value} {xs : List Value} (h : w.ownsRow base e size v n xs) (hb : base' ≤ base) : w.ownsRow base' e size v n xs := by
  refine ⟨h.1, ?_⟩
  rcases h.2 with h' | ⟨g, c, cur, rfl, h1, h2⟩
  · exact .inl h'
  · exact .inr ⟨g, c, cur, rfl, Nat.le_trans hb h1, h2⟩
theorem RowOf.down {w : World} {base base' : Nat} {o : Value} {es : List Ent} {G : List Nat} (h : RowOf w base o es G) (hb : base' ≤ base) : RowOf w base' o es G :=
  ⟨own_low h.own hb, h.kids, h.nodup, fun c hc => Nat.le_trans hb (h.low c hc), h.apart⟩
/-- A value that was drawn: of bounded weight, its rows in new memory; its kids' row is the call's own. -/
def DV (K : Nat) (w0 w : World) (b : Nat) (A : Option Addr) (cap : Nat) (code : List UInt8) (e : Ending) (w' : World) : Prop :=
  ∃ (k n x : Int) (s : ByteArray) (es : List Ent) (B : Option Addr) (c : Nat) (G : List Nat), e = .returned ((V.mk k n x s (es.map (·.1))).agg B c) ∧ (V.mk k n x s (es.map (·.1))).fits ∧ (V.mk k n x s (es.map (·.1))).weight ≤ K ∧ RowOf w' w0.heap.size (.slice B es.length c) es G ∧ Drawn w b A cap code w'
theorem DV.opened {K : Nat} {w0 w w' : World} {b : Nat} {A : Option Addr} {cap : Nat} {code : List UInt8} {e : Ending} (h : DV K w0 w b A cap code e w') :
    ∃ (v : V) (B : Option Addr) (c : Nat) (F : List Nat), e = .returned (v.agg B c) ∧ v.fits ∧ v.weight ≤ K ∧ v.kids.length ≤ c ∧ Vs.lies w' v.kids B F ∧ F.Nodup ∧ (∀ x ∈ F, w0.heap.size ≤ x) ∧ Drawn w b A cap code w' := by
  obtain ⟨k, n, x, s, es, B, c, G, he, hf, hw, hr, hd⟩ := h
  obtain ⟨A', c', F, e', k1, k2, k3, k4⟩ := hr.lies
  injection e' with e1 e2 e3
  subst e1 e3
  exact ⟨_, _, _, F, he, hf, hw, by show (es.map (·.1)).length ≤ _; simpa using k1, k2, k3, k4, hd⟩
theorem drawn_over {w w2 W : World} {b : Nat} {A : Option Addr} {cap : Nat} {code : List UInt8} (h : Drawn w b A cap code w2) (hb : b < w.heap.size) (hB : Below w.heap.size w2 W) : Drawn w b A cap code W :=
  ⟨h.1.below hB hb, ⟨hB.os.trans h.2.os, hB.tape.trans h.2.tape, hB.output.trans h.2.output, Nat.le_trans h.2.size hB.size, fun k hk hne => (hB.block k hk).trans (h.2.block k hk hne)⟩⟩
theorem DV.leaf {K : Nat} {w0 w w' : World} {b : Nat} {A : Option Addr} {cap : Nat} {code : List UInt8} {e : Ending} (k n x : Int) (s : ByteArray) (he : e = .returned ((V.mk k n x s []).agg none 0)) (hk : inI k) (hn : inI n) (hx : inI x) (hs : s.size ≤ K) (hK : K ≤ 1048576) (hd : Drawn w b A cap code w') : DV K w0 w b A cap code e w' :=
  ⟨k, n, x, s, [], none, 0, [], he, by rw [V.fits_eq]; exact ⟨by show s.size ≤ _; omega, by show 0 ≤ _; omega, by show Vs.fits []; simp [Vs.fits], hk, hn, hx⟩, by rw [V.weight_eq]; show s.size + Vs.weight [] ≤ K; simp [Vs.weight]; exact hs, RowOf.none ⟨rfl, .inl ⟨rfl, rfl⟩⟩, hd⟩
theorem drawStr (s : ByteArray) (w : World) : Calls Tryd.prog 82 #[.string s] w fun e w' => e = .returned ((V.mk 5 0 0 s []).agg none 0) ∧ Below w.heap.size w w' := by
  go_enter Tryd.func82, Tryd.ntmps82
  go_wp2_with fail
  refine bodyPost_ret (v := .agg #[.int .i64 5, .int .i64 0, .int .i64 0, .string s, .slice none 0 0]) (by simp [results, Tryd.results82, go_sem]) rfl ⟨rfl, ?_⟩
  repeat (first | exact (Below.refl _ w).alloc (Nat.le_refl _) _ | (refine Below.setCell ?_ (by simp) _))
theorem drawInt (n : Int) (w : World) : Calls Tryd.prog 83 #[.int .i64 n] w fun e w' => e = .returned ((V.mk 3 n 0 ⟨#[]⟩ []).agg none 0) ∧ Below w.heap.size w w' := by
  go_enter Tryd.func83, Tryd.ntmps83
  go_wp2_with fail
  refine bodyPost_ret (v := .agg #[.int .i64 3, .int .i64 n, .int .i64 0, .string ⟨#[]⟩, .slice none 0 0]) (by simp [results, Tryd.results83, go_sem]) rfl ⟨rfl, ?_⟩
  repeat (first | exact (Below.refl _ w).alloc (Nat.le_refl _) _ | (refine Below.setCell ?_ (by simp) _))
def lfN : List Int := [15, -3, 1, 9007199254740993, -999999999999999999]
def lfE : List Int := [-1, -2, 19, 20, -20]
def lfS : List ByteArray := [⟨#[99, 111, 109, 109, 111, 110, 32, 118, 97, 108, 117, 101]⟩, ⟨#[99, 111, 109, 109, 111, 110, 32, 118, 97, 108]⟩, ⟨#[97, 110, 111, 116, 104, 101, 114, 32, 99, 111, 109, 109, 111, 110, 32, 118, 97, 108, 117, 101]⟩, ⟨#[120]⟩, ⟨#[]⟩]
def lfI (r : Int) : List Int := [0, 1, 23, 24, 255, 256, 65535, 65536, 4294967295, 4294967296, -1, -24, -25, -256, -257, 9223372036854775807, -9223372036854775808, r]
theorem lfN_in : ∀ z ∈ lfN, inI z := by
  intro z hz
  simp only [lfN, List.mem_cons, List.not_mem_nil, or_false] at hz
  unfold inI
  omega
theorem lfE_in : ∀ z ∈ lfE, inI z := by
  intro z hz
  simp only [lfE, List.mem_cons, List.not_mem_nil, or_false] at hz
  unfold inI
  omega
theorem lfS_size : ∀ s ∈ lfS, s.size ≤ 20 := by decide
theorem lfI_in (r : Int) (h : 0 ≤ r ∧ r ≤ 100000) : ∀ z ∈ lfI r, inI z := by
  intro z hz
  simp only [lfI, List.mem_cons, List.not_mem_nil, or_false] at hz
  unfold inI
  omega
/-- The result's cell behind what was drawn. -/
theorem res_cells {w1 w2 : World} {b p : Nat} {cs : Array Value} (hB : Blk w1 p 28 cs) (hp : p ≠ b) (hg : Gr b w1 w2) : Blk w2 p 28 cs :=
  (hg.block p hB.lt (by intro e; injection e with e; exact hp e)).trans hB

set_option maxHeartbeats 8000000 in
theorem dLeaf (plain : Bool) (b : Nat) (A : Option Addr) (cap : Nat) (code : List UInt8) (w : World) (hc : Cur w b A cap code) :
    Calls Tryd.prog 81 #[.pointer (some ⟨b, 0, none⟩), .bool plain] w fun e w' => DV 20 w w b A cap code e w' := by
  have hbw : b < w.heap.size := hc.lt
  have hpb : w.heap.size ≠ b := by omega
  have B0 := Lib.hid (Blk.new w 28 #[.int .i64 0, .int .i64 0, .int .i64 0, .string ⟨#[]⟩, .slice none 0 0])
  have D0 := Lib.hid (Drawn.alloc hc (.cells #[.int .i64 0, .int .i64 0, .int .i64 0, .string ⟨#[]⟩, .slice none 0 0] 28))
  have HW := Lib.hid (Nat.lt_succ_self w.heap.size)
  clear hc
  go_enter Tryd.func81, Tryd.ntmps81
  go_wp2_with fail
  obtain ⟨w1, hw1⟩ : ∃ w1, w1 = w.alloc (.cells #[.int .i64 0, .int .i64 0, .int .i64 0, .string ⟨#[]⟩, .slice none 0 0] 28) := ⟨_, rfl⟩
  rw [← hw1] at B0 D0 ⊢
  clear hw1 HW
  refine (dBelow 9 b A cap code w1 (by omega) (by omega) D0.out.1).mono ?_
  rintro e w2 ⟨⟨r, hr, rfl⟩, hd2⟩
  have D2 := Lib.hid (D0.out.trans hd2)
  have B2 := Lib.hid (res_cells B0.out hpb hd2.2)
  clear hd2
  have h4 : ∀ (K : Prop), r = 0 ∨ r = 1 ∨ (r = 2 ∧ plain = false) ∨ r = 3 ∨ r = 4 ∨ r = 5 ∨ ((r = 2 ∧ plain = true) ∨ r = 6 ∨ r = 7 ∨ r = 8) := fun _ => by
    cases plain
    · simp; omega
    · simp; omega
  have HX := Lib.hid (h4 True)
  clear h4 hr
  rcases HX.out with rfl | rfl | ⟨rfl, rfl⟩ | rfl | rfl | rfl | hd
  · go_wp2_with fail
    refine (dBelow 3 b A cap code w2 (by omega) (by omega) D2.out.1).mono ?_
    rintro e w3 ⟨⟨k, hk, rfl⟩, hd3⟩
    have D3 := Lib.hid (D2.out.trans hd3)
    have B3 := Lib.hid (res_cells B2.out hpb hd3.2)
    clear hd3
    have B9 := B3.out
    obtain ⟨p0, p1, p2, p3, p4⟩ := B9.five
    have f0 := B9.frozen 0
    have f1 := B9.frozen 1
    have f2 := B9.frozen 2
    have f3 := B9.frozen 3
    have f4 := B9.frozen 4
    clear B9
    go_wp2_with fail
    refine bodyPost_ret (v := .agg #[.int .i64 (k : Int), .int .i64 0, .int .i64 0, .string ⟨#[]⟩, .slice none 0 0]) (by simp [results, Tryd.results81, go_sem, p0, p1, p2, p3, p4, V.k, V.n, V.e, V.s, V.kids]) rfl (DV.leaf k 0 0 ⟨#[]⟩ rfl ?hk ?hn ?hx ?hs (by omega) (drawn_over D3.out hbw ?hd))
    case hk => (unfold inI; omega)
    case hn => first | assumption | (unfold inI; omega)
    case hx => first | assumption | (unfold inI; omega)
    case hs => first | omega | decide
    case hd =>
      repeat (first | exact Below.refl _ _ | (refine Below.setCell ?_ (by simp; try omega) _))

  · go_wp2_with fail
    refine (dPickIntNew lfN b A cap code _ (by decide) (by decide) D2.out.1).mono ?_
    rintro e w3 ⟨⟨n, hn, rfl⟩, hd3⟩
    have D3 := Lib.hid (D2.out.trans hd3)
    have B3 := Lib.hid (res_cells B2.out hpb hd3.2)
    go_wp2_with fail
    refine (dPickIntNew lfE b A cap code _ (by decide) (by decide) D3.out.1).mono ?_
    rintro e w4 ⟨⟨x, hx, rfl⟩, hd4⟩
    have D4 := Lib.hid (D3.out.trans hd4)
    have B4 := Lib.hid (res_cells B3.out hpb hd4.2)
    have hn2 := lfN_in n hn
    have hx2 := lfE_in x hx
    clear hn hx hd3 hd4
    have B9 := B4.out
    obtain ⟨p0, p1, p2, p3, p4⟩ := B9.five
    have f0 := B9.frozen 0
    have f1 := B9.frozen 1
    have f2 := B9.frozen 2
    have f3 := B9.frozen 3
    have f4 := B9.frozen 4
    clear B9
    go_wp2_with fail
    refine bodyPost_ret (v := .agg #[.int .i64 4, .int .i64 n, .int .i64 x, .string ⟨#[]⟩, .slice none 0 0]) (by simp [results, Tryd.results81, go_sem, p0, p1, p2, p3, p4, V.k, V.n, V.e, V.s, V.kids]) rfl (DV.leaf 4 n x ⟨#[]⟩ rfl ?hk ?hn ?hx ?hs (by omega) (drawn_over D4.out hbw ?hd))
    case hk => (unfold inI; omega)
    case hn => first | assumption | (unfold inI; omega)
    case hx => first | assumption | (unfold inI; omega)
    case hs => first | omega | decide
    case hd =>
      repeat (first | exact Below.refl _ _ | (refine Below.setCell ?_ (by simp; try omega) _))

  · go_wp2_with fail
    refine (dBelow 8 b A cap code w2 (by omega) (by omega) D2.out.1).mono ?_
    rintro e w3 ⟨⟨n, hn, rfl⟩, hd3⟩
    have D3 := Lib.hid (D2.out.trans hd3)
    have B3 := Lib.hid (res_cells B2.out hpb hd3.2)
    go_wp2_with fail
    refine (dText n b A cap code w3 (by omega) D3.out.1).mono ?_
    rintro e w4 ⟨⟨s, hs, rfl⟩, hd4⟩
    have D4 := Lib.hid (D3.out.trans hd4)
    have B4 := Lib.hid (res_cells B3.out hpb hd4.2)
    clear hd3 hd4
    have B9 := B4.out
    obtain ⟨p0, p1, p2, p3, p4⟩ := B9.five
    have f0 := B9.frozen 0
    have f1 := B9.frozen 1
    have f2 := B9.frozen 2
    have f3 := B9.frozen 3
    have f4 := B9.frozen 4
    clear B9
    go_wp2_with fail
    refine bodyPost_ret (v := .agg #[.int .i64 6, .int .i64 0, .int .i64 0, .string s, .slice none 0 0]) (by simp [results, Tryd.results81, go_sem, p0, p1, p2, p3, p4, V.k, V.n, V.e, V.s, V.kids]) rfl (DV.leaf 6 0 0 s rfl ?hk ?hn ?hx ?hs (by omega) (drawn_over D4.out hbw ?hd))
    case hk => (unfold inI; omega)
    case hn => first | assumption | (unfold inI; omega)
    case hx => first | assumption | (unfold inI; omega)
    case hs => first | omega | decide
    case hd =>
      repeat (first | exact Below.refl _ _ | (refine Below.setCell ?_ (by simp; try omega) _))

  · go_wp2_with fail
    refine (dPickNew lfS b A cap code _ (by decide) (by decide) D2.out.1).mono ?_
    rintro e w3 ⟨⟨s, hs, rfl⟩, hd3⟩
    have D3 := Lib.hid (D2.out.trans hd3)
    have B3 := Lib.hid (res_cells B2.out hpb hd3.2)
    have hs2 := lfS_size s hs
    clear hs hd3
    go_wp2_with fail
    refine (drawStr s w3).mono ?_
    rintro e w4 ⟨rfl, hb4⟩
    have D4 := Lib.hid (D3.out.trans (Drawn.of D3.out.1 hb4))
    have B4 := Lib.hid (res_cells B3.out hpb (Drawn.of D3.out.1 hb4).2)
    unfold V.agg
    have B9 := B4.out
    obtain ⟨p0, p1, p2, p3, p4⟩ := B9.five
    have f0 := B9.frozen 0
    have f1 := B9.frozen 1
    have f2 := B9.frozen 2
    have f3 := B9.frozen 3
    have f4 := B9.frozen 4
    clear B9
    go_wp2_with fail
    refine bodyPost_ret (v := .agg #[.int .i64 5, .int .i64 0, .int .i64 0, .string s, .slice none 0 0]) (by simp [results, Tryd.results81, go_sem, p0, p1, p2, p3, p4, V.k, V.n, V.e, V.s, V.kids]) rfl (DV.leaf 5 0 0 s rfl ?hk ?hn ?hx ?hs (by omega) (drawn_over D4.out hbw ?hd))
    case hk => (unfold inI; omega)
    case hn => first | assumption | (unfold inI; omega)
    case hx => first | assumption | (unfold inI; omega)
    case hs => first | omega | decide
    case hd =>
      repeat (first | exact Below.refl _ _ | (refine Below.setCell ?_ (by simp; try omega) _))

  · go_wp2_with fail
    refine (dPickNew lfS b A cap code _ (by decide) (by decide) D2.out.1).mono ?_
    rintro e w3 ⟨⟨s, hs, rfl⟩, hd3⟩
    have D3 := Lib.hid (D2.out.trans hd3)
    have B3 := Lib.hid (res_cells B2.out hpb hd3.2)
    have hs2 := lfS_size s hs
    clear hs hd3
    go_wp2_with fail
    refine (drawStr s w3).mono ?_
    rintro e w4 ⟨rfl, hb4⟩
    have D4 := Lib.hid (D3.out.trans (Drawn.of D3.out.1 hb4))
    have B4 := Lib.hid (res_cells B3.out hpb (Drawn.of D3.out.1 hb4).2)
    unfold V.agg
    have B9 := B4.out
    obtain ⟨p0, p1, p2, p3, p4⟩ := B9.five
    have f0 := B9.frozen 0
    have f1 := B9.frozen 1
    have f2 := B9.frozen 2
    have f3 := B9.frozen 3
    have f4 := B9.frozen 4
    clear B9
    go_wp2_with fail
    refine bodyPost_ret (v := .agg #[.int .i64 5, .int .i64 0, .int .i64 0, .string s, .slice none 0 0]) (by simp [results, Tryd.results81, go_sem, p0, p1, p2, p3, p4, V.k, V.n, V.e, V.s, V.kids]) rfl (DV.leaf 5 0 0 s rfl ?hk ?hn ?hx ?hs (by omega) (drawn_over D4.out hbw ?hd))
    case hk => (unfold inI; omega)
    case hn => first | assumption | (unfold inI; omega)
    case hx => first | assumption | (unfold inI; omega)
    case hs => first | omega | decide
    case hd =>
      repeat (first | exact Below.refl _ _ | (refine Below.setCell ?_ (by simp; try omega) _))

  · go_wp2_with fail
    refine (dSome b A cap code w2 D2.out.1).mono ?_
    rintro e w3 ⟨⟨s, hs, rfl⟩, hd3⟩
    have D3 := Lib.hid (D2.out.trans hd3)
    have B3 := Lib.hid (res_cells B2.out hpb hd3.2)
    clear hd3
    go_wp2_with fail
    refine (drawStr s w3).mono ?_
    rintro e w4 ⟨rfl, hb4⟩
    have D4 := Lib.hid (D3.out.trans (Drawn.of D3.out.1 hb4))
    have B4 := Lib.hid (res_cells B3.out hpb (Drawn.of D3.out.1 hb4).2)
    unfold V.agg
    have B9 := B4.out
    obtain ⟨p0, p1, p2, p3, p4⟩ := B9.five
    have f0 := B9.frozen 0
    have f1 := B9.frozen 1
    have f2 := B9.frozen 2
    have f3 := B9.frozen 3
    have f4 := B9.frozen 4
    clear B9
    go_wp2_with fail
    refine bodyPost_ret (v := .agg #[.int .i64 5, .int .i64 0, .int .i64 0, .string s, .slice none 0 0]) (by simp [results, Tryd.results81, go_sem, p0, p1, p2, p3, p4, V.k, V.n, V.e, V.s, V.kids]) rfl (DV.leaf 5 0 0 s rfl ?hk ?hn ?hx ?hs (by omega) (drawn_over D4.out hbw ?hd))
    case hk => (unfold inI; omega)
    case hn => first | assumption | (unfold inI; omega)
    case hx => first | assumption | (unfold inI; omega)
    case hs => first | omega | decide
    case hd =>
      repeat (first | exact Below.refl _ _ | (refine Below.setCell ?_ (by simp; try omega) _))

  · rcases hd with ⟨rfl, rfl⟩ | rfl | rfl | rfl
    all_goals
      go_wp2_with fail
      refine (dBelow 1000 b A cap code w2 (by omega) (by omega) D2.out.1).mono ?_
      rintro e w3 ⟨⟨r2, hr2, rfl⟩, hd3⟩
      have D3 := Lib.hid (D2.out.trans hd3)
      have B3 := Lib.hid (res_cells B2.out hpb hd3.2)
      go_wp2_with fail
      refine (dPickIntNew (lfI r2) b A cap code _ (by simp [lfI]) (by simp [lfI]) D3.out.1).mono ?_
      rintro e w4 ⟨⟨n, hn, rfl⟩, hd4⟩
      have D4 := Lib.hid (D3.out.trans hd4)
      have B4 := Lib.hid (res_cells B3.out hpb hd4.2)
      have hn2 := lfI_in r2 ⟨by omega, by omega⟩ n hn
      clear hn hd3 hd4
      go_wp2_with fail
      refine (drawInt n w4).mono ?_
      rintro e w5 ⟨rfl, hb5⟩
      have D5 := Lib.hid (D4.out.trans (Drawn.of D4.out.1 hb5))
      have B5 := Lib.hid (res_cells B4.out hpb (Drawn.of D4.out.1 hb5).2)
      unfold V.agg
      have B9 := B5.out
      obtain ⟨p0, p1, p2, p3, p4⟩ := B9.five
      have f0 := B9.frozen 0
      have f1 := B9.frozen 1
      have f2 := B9.frozen 2
      have f3 := B9.frozen 3
      have f4 := B9.frozen 4
      clear B9
      go_wp2_with fail
      refine bodyPost_ret (v := .agg #[.int .i64 3, .int .i64 n, .int .i64 0, .string ⟨#[]⟩, .slice none 0 0]) (by simp [results, Tryd.results81, go_sem, p0, p1, p2, p3, p4, V.k, V.n, V.e, V.s, V.kids]) rfl (DV.leaf 3 n 0 ⟨#[]⟩ rfl ?hk ?hn ?hx ?hs (by omega) (drawn_over D5.out hbw ?hd))
      case hk => (unfold inI; omega)
      case hn => first | assumption | (unfold inI; omega)
      case hx => first | assumption | (unfold inI; omega)
      case hs => first | omega | decide
      case hd =>
        repeat (first | exact Below.refl _ _ | (refine Below.setCell ?_ (by simp; try omega) _))
end Go.Proofs.YtcjamnfboifjeaaDoor

/-
  The draws of values: the rows that a drawn value's kids lie in.
-/
namespace Go.Proofs.YtcjamnfboifjeaaDoor
open Go.RowKit
set_option linter.unusedVariables false
set_option linter.unusedSimpArgs false
set_option maxRecDepth 100000

theorem Calls.atW {P : Program} {f : Nat} {args : Array Value} {Q : Ending → World → Prop} {W : World} (I : World → Prop) (h : I W) (k : ∀ w, I w → Calls P f args w Q) : Calls P f args W Q := k W h
theorem Cur.drew {w : World} {b : Nat} {A : Option Addr} {cap : Nat} {code : List UInt8} (h : Cur w b A cap code) : Cur w.drew b A cap code := h.below ((Below.refl w.heap.size w).drew) h.lt
theorem Drawn.drew {a w : World} {b : Nat} {A : Option Addr} {cap : Nat} {code : List UInt8} (h : Drawn a b A cap code w) : Drawn a b A cap code w.drew := ⟨h.1.drew, h.2.drew⟩
theorem Drawn.undrew {w w' : World} {b : Nat} {A : Option Addr} {cap : Nat} {code : List UInt8} (h : Drawn w.drew b A cap code w') : Drawn w b A cap code w' := ⟨h.1, ((Gr.refl b w).drew).trans h.2⟩
theorem RowOf.gr {w w' : World} {base : Nat} {o : Value} {es : List Ent} {G : List Nat} {b : Nat} (h : RowOf w base o es G) (hg : Gr b w w') (hb : b < base) : RowOf w' base o es G :=
  ⟨own_gr h.own hg hb, kidsLie_same es G h.kids ⟨hg.size, fun c hc => hg.block c (h.lt c hc) (by intro e; injection e with e; have := h.low c hc; omega)⟩, h.nodup, h.low, h.apart⟩
/-- Values appended. -/
theorem RowOf.pushN {w w1 w' : World} {base : Nat} {o v' : Value} {es xs : List Ent} {G F : List Nat} (h : RowOf w base o es G) (hl : kidsLie w xs F)
    (hnd : F.Nodup) (hF : ∀ x ∈ F, base ≤ x) (hFG : ∀ x ∈ F, x ∉ G) (hFo : ∀ g, o.ownBlock = some g → g ∉ F) (h1 : Below w.heap.size w w1)
    (hown' : w'.ownsRow base 28 5 v' (es.length + xs.length) (flat es ++ flat xs)) (hg : w1.grownBy w' o.ownBlock) (hv : v'.ownBlock = o.ownBlock ∨ v'.ownBlock = some w1.heap.size) :
    RowOf w' base v' (es ++ xs) (G ++ F) := by
  have hlt := h.lt
  have hFl : ∀ x ∈ F, x < w.heap.size := kidsLie_lt xs F hl
  have same : ∀ x, x < w.heap.size → (∀ g, o.ownBlock = some g → x ≠ g) → w'.heap[x]? = w.heap[x]? := fun x hx hn => by
    rw [hg.block x (Nat.lt_of_lt_of_le hx h1.size) (fun e => hn x e.symm rfl), h1.block x hx]
  have hsz : w.heap.size ≤ w'.heap.size := Nat.le_trans h1.size hg.size
  refine ⟨?_, kidsLie_append _ _ _ _ (kidsLie_same es G h.kids ⟨hsz, fun x hx => same x (hlt x hx) (fun g hg' e => h.apart g hg' (e ▸ hx))⟩) (kidsLie_same xs F hl ⟨hsz, fun x hx => same x (hFl x hx) (fun g hg' e => hFo g hg' (e ▸ hx))⟩), ?_, ?_, ?_⟩
  · rw [List.length_append, flat_append]; exact hown'
  · exact List.nodup_append.2 ⟨h.nodup, hnd, fun a ha b hb e => hFG b hb (e ▸ ha)⟩
  · intro x hx
    rcases List.mem_append.1 hx with hx | hx
    · exact h.low x hx
    · exact hF x hx
  · intro g hg' hx
    have hgl : g < w.heap.size := by
      rcases List.mem_append.1 hx with hx | hx
      · exact hlt g hx
      · exact hFl g hx
    rcases hv with e | e
    · rw [e] at hg'
      rcases List.mem_append.1 hx with hx | hx
      · exact h.apart g hg' hx
      · exact hFo g hg' hx
    · rw [e] at hg'
      injection hg' with hg'
      have := h1.size
      omega
theorem ent_ones' (x : Ent) : ∀ u ∈ x.cells, u.oneCell' = true := by
  intro u hu
  simp [Ent.cells] at hu
  rcases hu with rfl | rfl | rfl | rfl | rfl <;> rfl

/-- A value under way: its block, its kids' row. -/
def MkAt (w : World) (b p : Nat) (A : Option Addr) (cap : Nat) (code : List UInt8) (kd : Int) (es : List Ent) (oA : Option Addr) (oc : Nat) (wr : World) : Prop :=
  ∃ G, Blk wr p 28 #[.int .i64 kd, .int .i64 0, .int .i64 0, .string ⟨#[]⟩, .slice oA es.length oc] ∧ RowOf wr (p + 1) (.slice oA es.length oc) es G ∧ Drawn w b A cap code wr
theorem MkAt.blk {w wr : World} {b p : Nat} {A : Option Addr} {cap : Nat} {code : List UInt8} {kd : Int} {es : List Ent} {oA : Option Addr} {oc : Nat} (h : MkAt w b p A cap code kd es oA oc wr) :
    Blk wr p 28 #[.int .i64 kd, .int .i64 0, .int .i64 0, .string ⟨#[]⟩, .slice oA es.length oc] := by
  obtain ⟨G, h1, _⟩ := h
  exact h1
theorem MkAt.drawn {w wr : World} {b p : Nat} {A : Option Addr} {cap : Nat} {code : List UInt8} {kd : Int} {es : List Ent} {oA : Option Addr} {oc : Nat} (h : MkAt w b p A cap code kd es oA oc wr) : Drawn w b A cap code wr := by
  obtain ⟨G, _, _, h3⟩ := h
  exact h3
theorem MkAt.own {w wr w1 : World} {b p : Nat} {A : Option Addr} {cap : Nat} {code : List UInt8} {kd : Int} {es : List Ent} {oA : Option Addr} {oc : Nat} (h : MkAt w b p A cap code kd es oA oc wr) (hg : Gr b wr w1) (hb : b < p) :
    w1.ownsRow (p + 1) 28 5 (.slice oA es.length oc) es.length (flat es) := by
  obtain ⟨G, _, h2, _⟩ := h
  exact own_gr h2.own hg (by omega)
theorem MkAt.start {w wr : World} {b p : Nat} {A : Option Addr} {cap : Nat} {code : List UInt8} {kd : Int} (h1 : Blk wr p 28 #[.int .i64 kd, .int .i64 0, .int .i64 0, .string ⟨#[]⟩, .slice none 0 0]) (h2 : Drawn w b A cap code wr) : MkAt w b p A cap code kd [] none 0 wr :=
  ⟨[], h1, RowOf.none ⟨rfl, .inl ⟨rfl, rfl⟩⟩, h2⟩
theorem MkAt.gr {w wr w1 : World} {b p : Nat} {A : Option Addr} {cap : Nat} {code : List UInt8} {kd : Int} {es : List Ent} {oA : Option Addr} {oc : Nat} (h : MkAt w b p A cap code kd es oA oc wr) (hb : b < p) (hd : Drawn wr b A cap code w1) : MkAt w b p A cap code kd es oA oc w1 := by
  obtain ⟨G, h1, h2, h3⟩ := h
  exact ⟨G, res_cells h1 (by omega) hd.2, h2.gr hd.2 (by omega), h3.trans hd⟩
theorem MkAt.below {w wr w1 : World} {b p : Nat} {A : Option Addr} {cap : Nat} {code : List UInt8} {kd : Int} {es : List Ent} {oA : Option Addr} {oc : Nat} (h : MkAt w b p A cap code kd es oA oc wr) (hb : b < p) (hd : Below wr.heap.size wr w1) : MkAt w b p A cap code kd es oA oc w1 :=
  h.gr hb (Drawn.of h.drawn.1 hd)
/-- Behind an append: the value's block is as it was. -/
theorem MkAt.far {w wr w1 w2 w' : World} {b p : Nat} {A : Option Addr} {cap : Nat} {code : List UInt8} {kd : Int} {es : List Ent} {oA : Option Addr} {oc : Nat} (h : MkAt w b p A cap code kd es oA oc wr) (hb : b < p) (hd1 : Drawn wr b A cap code w1) (h2 : Below w1.heap.size w1 w2)
    (hg : w2.grownBy w' (Value.slice oA es.length oc).ownBlock) : Blk w' p 28 #[.int .i64 kd, .int .i64 0, .int .i64 0, .string ⟨#[]⟩, .slice oA es.length oc] := by
  obtain ⟨G, h3, h4, h5⟩ := h
  have e1 := res_cells h3 (by omega) hd1.2
  have e2 := e1.below h2 e1.lt
  refine (hg.block p e2.lt fun e => ?_).trans e2
  have := (h4.own.lt p e.symm).1
  omega
/-- A round: values appended, the row stored. -/
theorem MkAt.next {w wr w1 w2 w' : World} {b p : Nat} {A : Option Addr} {cap : Nat} {code : List UInt8} {kd : Int} {es xs : List Ent} {F : List Nat} {oA : Option Addr} {oc g c' : Nat}
    (hm : MkAt w b p A cap code kd es oA oc wr) (hb : b < w.heap.size) (hp : w.heap.size ≤ p) (hl : kidsLie w1 xs F) (hnd : F.Nodup) (hF : ∀ x ∈ F, wr.heap.size ≤ x) (hd1 : Drawn wr b A cap code w1) (h2 : Below w1.heap.size w1 w2)
    (hown' : w'.ownsRow (p + 1) 28 5 (.slice (some ⟨g, 0, none⟩) (es.length + xs.length) c') (es.length + xs.length) (flat es ++ flat xs)) (hg : w2.grownBy w' (Value.slice oA es.length oc).ownBlock) (hat : (Value.slice oA es.length oc).ownBlock = some g ∨ g = w2.heap.size) :
    MkAt w b p A cap code kd (es ++ xs) (some ⟨g, 0, none⟩) c' (w'.setCell ⟨p, 4, none⟩ (.slice (some ⟨g, 0, none⟩) (es.length + xs.length) c')) := by
  have hfar := hm.far (by omega) hd1 h2 hg
  obtain ⟨G, h3, h4, h5⟩ := hm
  have hpl := h3.lt
  have r1 := h4.gr hd1.2 (by omega)
  have hlt := h4.lt
  have r2 := r1.pushN hl hnd (fun x hx => by have := hF x hx; omega) (fun x hx hG => by have := hlt x hG; have := hF x hx; omega)
    (fun g hg' hx => by have := (h4.own.lt g hg').2; have := hF g hx; omega) h2 hown' hg (by
      rcases hat with e | e
      · exact .inl e.symm
      · exact .inr (by rw [← e]; rfl))
  refine ⟨G ++ F, ?_, ?_, ?_⟩
  · have h := hfar.set 4 (.slice (some ⟨g, 0, none⟩) (es.length + xs.length) c')
    rw [List.length_append]
    simpa using h
  · rw [List.length_append]
    exact r2.gr (Gr.set p w' 4 _) (by omega)
  · have hB : Below w.heap.size w2 w' := ⟨hg.os, hg.tape, hg.output, hg.size, fun k hk => hg.block k (by have := h5.2.size; have := hd1.2.size; have := h2.size; omega) (fun e => by have := (h4.own.lt k e.symm).1; omega)⟩
    have hz : w.heap.size ≤ w1.heap.size := Nat.le_trans h5.2.size hd1.2.size
    exact drawn_over (h5.trans hd1) hb (((h2.mono hz).trans hB).setCell (by show w.heap.size ≤ p; exact hp) _)
/-- The kids of a value that is made. -/
theorem MkAt.lies {w wr : World} {b p : Nat} {A : Option Addr} {cap : Nat} {code : List UInt8} {kd : Int} {es : List Ent} {oA : Option Addr} {oc : Nat} (h : MkAt w b p A cap code kd es oA oc wr) :
    ∃ F, es.length ≤ oc ∧ Vs.lies wr (es.map (·.1)) oA F ∧ F.Nodup ∧ ∀ x ∈ F, p < x := by
  obtain ⟨G, h1, h2, h3⟩ := h
  obtain ⟨A', c, F, e, k1, k2, k3, k4⟩ := h2.lies
  injection e with e1 e2 e3
  subst e1 e3
  exact ⟨F, k1, k2, k3, fun x hx => by have := k4 x hx; omega⟩
end Go.Proofs.YtcjamnfboifjeaaDoor

/-
  The draws of values: a value with kids.
-/
namespace Go.Proofs.YtcjamnfboifjeaaDoor
open Go.RowKit
set_option linter.unusedVariables false
set_option linter.unusedSimpArgs false
set_option maxRecDepth 100000

def WK : Nat → Nat
  | 0 => 20
  | d + 1 => 36 + 3 * WK d
theorem WK_ge : ∀ d, 20 ≤ WK d
  | 0 => Nat.le_refl _
  | d + 1 => by simp only [WK]; omega
theorem WK_up (d : Nat) : WK (d + 1) = 36 + 3 * WK d := rfl
theorem WK_le (d : Nat) (h : d ≤ 3) : WK d ≤ 1008 := by
  match d, h with
  | 0, _ => decide
  | 1, _ => decide
  | 2, _ => decide
  | 3, _ => decide
def MkSaid (d : Nat) : Prop := ∀ (plain : Bool) (b : Nat) (A : Option Addr) (cap : Nat) (code : List UInt8) (w : World), Cur w b A cap code →
    Calls Tryd.prog 79 #[.pointer (some ⟨b, 0, none⟩), .int .i64 (d : Int), .bool plain] w fun e w' => DV (WK d) w w b A cap code e w'
/-- Behind stores into one's own block. -/
theorem DV.gr {K : Nat} {w w1 W : World} {b : Nat} {A : Option Addr} {cap : Nat} {code : List UInt8} {k n x : Int} {s : ByteArray} {es : List Ent} {B : Option Addr} {c : Nat} {G : List Nat} {p base : Nat} {e : Ending} (he : e = .returned ((V.mk k n x s (es.map (·.1))).agg B c))
    (hf : (V.mk k n x s (es.map (·.1))).fits) (hw : (V.mk k n x s (es.map (·.1))).weight ≤ K) (hr : RowOf w1 base (.slice B es.length c) es G) (hbase : p < base) (hp : w.heap.size ≤ p) (hd : Drawn w b A cap code w1) (hb : b < w.heap.size) (hg : Gr p w1 W) : DV K w w b A cap code e W :=
  ⟨k, n, x, s, es, B, c, G, he, hf, hw, (hr.gr hg hbase).down (by omega), drawn_over hd hb (hg.toBelow hp hd.2.size)⟩
/-- A row laid as one new block. -/
theorem rows_lies {w : World} (es : List Ent) {F : List Nat} (h : kidsLie w es F) : Vs.lies (w.alloc (.cells (flat es).toArray 28)) (es.map (·.1)) (some ⟨w.heap.size, 0, none⟩) (w.heap.size :: F) := by
  have hB := Blk.new w 28 (flat es).toArray
  refine .inr ⟨w.heap.size, F, rfl, rfl, by simp, fun q => hB.frozen q, kidsLie_cells es 0 F (fun q hq => ?_) (kidsLie_same es F h ⟨by simp, fun c hc => Below.heap_alloc w _ c (kidsLie_lt es F h c hc)⟩)⟩
  rw [Nat.zero_add, hB.cell q, List.getElem?_toArray]
theorem rows_nodup {w : World} (es : List Ent) {F : List Nat} (h : kidsLie w es F) (hn : F.Nodup) : (w.heap.size :: F).Nodup :=
  List.nodup_cons.2 ⟨fun hx => by have := kidsLie_lt es F h _ hx; omega, hn⟩
theorem row_fresh {w : World} (es : List Ent) {F : List Nat} {base : Nat} (h : kidsLie w es F) (hn : F.Nodup) (hes : es.length ≤ 1000) (hF : ∀ x ∈ F, base ≤ x) (hb : base ≤ w.heap.size) : RowOf (w.alloc (.cells (flat es).toArray 28)) base (.slice (some ⟨w.heap.size, 0, none⟩) es.length es.length) es F := by
  refine ⟨⟨flat_len es, .inr ⟨w.heap.size, es.length, (flat es).toArray, rfl, hb, Blk.new w 28 (flat es).toArray, Nat.le_refl _, by unfold maxLen; omega, by rw [List.size_toArray, flat_len], by rw [← flat_len]; simp⟩⟩, kidsLie_same es F h ⟨by simp, fun c hc => Below.heap_alloc w _ c (kidsLie_lt es F h c hc)⟩, hn, hF, fun g hg hx => ?_⟩
  have h1 := kidsLie_lt es F h g hx
  have h2 : w.heap.size = g := by injection hg
  omega
theorem DV.row {K : Nat} {w w7 w8 : World} {b : Nat} {A : Option Addr} {cap : Nat} {code : List UInt8} {k n x : Int} {s : ByteArray} {es : List Ent} {F : List Nat} {p N : Nat} {e : Ending} (he : e = .returned ((V.mk k n x s (es.map (·.1))).agg (some ⟨N, 0, none⟩) es.length))
    (hf : (V.mk k n x s (es.map (·.1))).fits) (hw : (V.mk k n x s (es.map (·.1))).weight ≤ K) (hl : kidsLie w7 es F) (hn : F.Nodup) (hF : ∀ x ∈ F, p < x) (hp : w.heap.size ≤ p) (hp7 : p < w7.heap.size) (hd : Drawn w b A cap code w7) (hb : b < w.heap.size) (hg : Gr p w7 w8) (hz : w8.heap.size = N) (hz7 : w7.heap.size = N) (hes : es.length ≤ 1000) :
    DV K w w b A cap code e (w8.alloc (.cells (flat es).toArray 28)) := by
  have hl8 : kidsLie w8 es F := kidsLie_same es F hl ⟨hg.size, fun x hx => hg.block x (kidsLie_lt es F hl x hx) (by intro e; injection e with e; have := hF x hx; omega)⟩
  have h1 := row_fresh (base := w.heap.size) es hl8 hn hes (fun x hx => by have := hF x hx; omega) (by omega)
  rw [hz] at h1
  exact ⟨k, n, x, s, es, _, _, F, he, hf, hw, h1, drawn_over hd hb ((hg.toBelow hp hd.2.size).alloc (by have := hd.2.size; omega) _)⟩
theorem MkAt.kind {w wr : World} {b p : Nat} {A : Option Addr} {cap : Nat} {code : List UInt8} {kd : Int} {es : List Ent} {oA : Option Addr} {oc : Nat} (h : MkAt w b p A cap code kd es oA oc wr) (hb : b < w.heap.size) (hp : w.heap.size ≤ p) (kd' : Int) : MkAt w b p A cap code kd' es oA oc (wr.setCell ⟨p, 0, none⟩ (.int .i64 kd')) := by
  obtain ⟨G, h1, h2, h3⟩ := h
  refine ⟨G, by have h := h1.set 0 (.int .i64 kd'); simpa using h, h2.gr (Gr.set p wr 0 _) (by omega), ⟨h3.1.below ((Below.refl w.heap.size wr).setCell hp _) hb, (drawn_over h3 hb ((Below.refl w.heap.size wr).setCell hp _)).2⟩⟩
theorem Vs.weight_app (a b : List V) : Vs.weight (a ++ b) = Vs.weight a + Vs.weight b := by
  induction a with
  | nil => simp [Vs.weight]
  | cons x l ih => simp only [List.cons_append, Vs.weight, ih]; omega
theorem Vs.fits_app (a b : List V) (h : Vs.fits a) (k : Vs.fits b) : Vs.fits (a ++ b) := by
  induction a with
  | nil => exact k
  | cons x l ih => simp only [Vs.fits] at h; simp only [List.cons_append, Vs.fits]; exact ⟨h.1, ih h.2⟩
/-- What a loop over kids has laid: m of them a round, of weight at most q a round. -/
def MkRel (m q n : Nat) (w : World) (b p : Nat) (A : Option Addr) (cap : Nat) (code : List UInt8) (kd : Int) (r : Nat) (i : Value) (wr : World) : Prop :=
  ∃ (j : Nat) (es : List Ent) (oA : Option Addr) (oc : Nat), i = .int .i64 (j : Int) ∧ j ≤ n ∧ es.length = m * j ∧ Hid (MkAt w b p A cap code kd es oA oc wr) ∧ Hid (Vs.fits (es.map (·.1)) ∧ Vs.weight (es.map (·.1)) ≤ j * q) ∧ Hid (Blk wr r 28 #[.int .i64 0, .int .i64 0, .int .i64 0, .string ⟨#[]⟩, .slice none 0 0])
theorem blk_gr {w1 w2 : World} {b p : Nat} {t : TypeId} {cs : Array Value} (hB : Blk w1 p t cs) (hp : p ≠ b) (hg : Gr b w1 w2) : Blk w2 p t cs := (hg.block p hB.lt (by intro e; injection e with e; exact hp e)).trans hB
theorem MkAt.other {w wr w1 w2 w' : World} {b p : Nat} {A : Option Addr} {cap : Nat} {code : List UInt8} {kd : Int} {es : List Ent} {oA : Option Addr} {oc : Nat} (h : MkAt w b p A cap code kd es oA oc wr) (hd1 : Drawn wr b A cap code w1) (h2 : Below w1.heap.size w1 w2)
    (hg : w2.grownBy w' (Value.slice oA es.length oc).ownBlock) {r : Nat} {t : TypeId} {cs : Array Value} (hr : Blk wr r t cs) (hrb : r ≠ b) (hrp : r < p) (x : Value) : Blk (w'.setCell ⟨p, 4, none⟩ x) r t cs := by
  obtain ⟨G, h3, h4, h5⟩ := h
  have e1 := blk_gr hr hrb hd1.2
  have e2 := e1.below h2 e1.lt
  have e3 : Blk w' r t cs := (hg.block r e2.lt fun e => by have := (h4.own.lt r e.symm).1; omega).trans e2
  exact blk_gr e3 (b := p) (by omega) (Gr.set p w' 4 x)
/-- A round of a loop over kids. -/
theorem MkRel.next {m q n : Nat} {w wr w1 w2 w' : World} {b p : Nat} {A : Option Addr} {cap : Nat} {code : List UInt8} {kd : Int} {r j : Nat} {es xs : List Ent} {F : List Nat} {oA : Option Addr} {oc g c' : Nat}
    (hm : MkAt w b p A cap code kd es oA oc wr) (hw : Vs.fits (es.map (·.1)) ∧ Vs.weight (es.map (·.1)) ≤ j * q) (hB : Blk wr r 28 #[.int .i64 0, .int .i64 0, .int .i64 0, .string ⟨#[]⟩, .slice none 0 0]) (hj : j < n) (hel : es.length = m * j) (hx : xs.length = m) (hxf : Vs.fits (xs.map (·.1))) (hxw : Vs.weight (xs.map (·.1)) ≤ q)
    (hb : b < w.heap.size) (hp : w.heap.size ≤ p) (hrb : r ≠ b) (hrp : r < p) (hl : kidsLie w1 xs F) (hnd : F.Nodup) (hF : ∀ x ∈ F, wr.heap.size ≤ x) (hd1 : Drawn wr b A cap code w1) (h2 : Below w1.heap.size w1 w2)
    (hown' : w'.ownsRow (p + 1) 28 5 (.slice (some ⟨g, 0, none⟩) (es.length + m) c') (es.length + m) (flat es ++ flat xs)) (hg : w2.grownBy w' (Value.slice oA es.length oc).ownBlock) (hat : (Value.slice oA es.length oc).ownBlock = some g ∨ g = w2.heap.size) :
    MkRel m q n w b p A cap code kd r (.int .i64 ((j : Int) + 1)) (w'.setCell ⟨p, 4, none⟩ (.slice (some ⟨g, 0, none⟩) (es.length + m) c')) := by
  subst hx
  refine ⟨j + 1, es ++ xs, some ⟨g, 0, none⟩, c', by go_num, hj, by rw [List.length_append, hel, Nat.mul_succ], Lib.hid (hm.next hb hp hl hnd hF hd1 h2 hown' hg hat), Lib.hid ⟨?_, ?_⟩, Lib.hid (hm.other hd1 h2 hg hB hrb hrp _)⟩
  · rw [List.map_append]; exact Vs.fits_app _ _ hw.1 hxf
  · rw [List.map_append, Vs.weight_app, Nat.succ_mul]; have := hw.2; omega
def mkKey (j : Nat) : ByteArray := if j = 0 then ⟨#[110, 97, 109, 101]⟩ else if j = 1 then ⟨#[105, 100]⟩ else if j = 2 then ⟨#[108, 105, 115, 116]⟩ else ⟨#[99, 111, 109, 109, 111, 110, 32, 107, 101, 121]⟩
theorem mkKey_size (j : Nat) : (mkKey j).size ≤ 10 := by
  unfold mkKey
  split
  · decide
  · split
    · decide
    · split <;> decide
theorem mkKey_at (j : Nat) (h : j < 4) : ([.string ⟨#[110, 97, 109, 101]⟩, .string ⟨#[105, 100]⟩, .string ⟨#[108, 105, 115, 116]⟩, .string ⟨#[99, 111, 109, 109, 111, 110, 32, 107, 101, 121]⟩] : List Value)[j]? = some (.string (mkKey j)) := by
  match j, h with
  | 0, _ => rfl
  | 1, _ => rfl
  | 2, _ => rfl
  | 3, _ => rfl
theorem key_fits (k n : Int) (s : ByteArray) (hk : inI k) (hn : inI n) (hs : s.size ≤ 10) : (V.mk k n 0 s []).fits :=
  (V.fits_eq _).2 ⟨by show s.size ≤ _; omega, by show 0 ≤ _; omega, by show Vs.fits []; simp [Vs.fits], hk, hn, by show inI 0; unfold inI; omega⟩
def mkTg : List Int := [0, 1, 24, 1000, 1000000]
theorem mkTg_in : ∀ z ∈ mkTg, inI z := by
  intro z hz
  simp only [mkTg, List.mem_cons, List.not_mem_nil, or_false] at hz
  unfold inI
  omega

end Go.Proofs.YtcjamnfboifjeaaDoor

/-
  The draws of values: a value with kids (l02Make).
-/
namespace Go.Proofs.YtcjamnfboifjeaaDoor
open Go.RowKit
set_option linter.unusedVariables false
set_option linter.unusedSimpArgs false
set_option maxRecDepth 100000

set_option maxHeartbeats 4000000 in
theorem mk_zero : MkSaid 0 := by
  intro plain b A cap code w hc
  have hbw : b < w.heap.size := hc.lt
  have hpb : w.heap.size ≠ b := by omega
  have B1 := Lib.hid (Blk.new w 28 #[.int .i64 0, .int .i64 0, .int .i64 0, .string ⟨#[]⟩, .slice none 0 0])
  have D1 := Lib.hid (Drawn.alloc hc (.cells #[.int .i64 0, .int .i64 0, .int .i64 0, .string ⟨#[]⟩, .slice none 0 0] 28))
  have Z1 : Hid ((w.alloc (.cells #[.int .i64 0, .int .i64 0, .int .i64 0, .string ⟨#[]⟩, .slice none 0 0] 28)).heap.size = w.heap.size + 1) := Lib.hid (by simp)
  clear hc
  go_enter Tryd.func79, Tryd.ntmps79
  go_wp2_with fail
  refine Calls.atW (fun w1 => Hid (Blk w1 w.heap.size 28 #[.int .i64 0, .int .i64 0, .int .i64 0, .string ⟨#[]⟩, .slice none 0 0]) ∧ Hid (Drawn w b A cap code w1) ∧ w1.heap.size = w.heap.size + 1) ⟨B1, D1, Z1.out⟩ ?_
  clear B1 D1 Z1
  rintro w1 ⟨B1, D1, Z1⟩
  refine (dLeaf plain b A cap code w1 D1.out.1).mono ?_
  rintro e w9 ⟨vk, vn, vx, vs, es, B, c, G, rfl, h1, h2, h4, h7⟩
  have H1 := Lib.hid h1
  have H2 := Lib.hid h2
  have H4 := Lib.hid h4
  have D9 := Lib.hid (D1.out.trans h7)
  have B8 := Lib.hid (res_cells B1.out hpb h7.2)
  have HZ9 := B1.out.lt
  clear h1 h2 h4 h7
  have B9 := B8.out
  obtain ⟨p0, p1, p2, p3, p4⟩ := B9.five
  have f0 := B9.frozen 0
  have f1 := B9.frozen 1
  have f2 := B9.frozen 2
  have f3 := B9.frozen 3
  have f4 := B9.frozen 4
  clear B9
  unfold V.agg
  go_wp2_with fail
  refine bodyPost_ret (v := (V.mk vk vn vx vs (es.map (·.1))).agg B c) (by simp [results, Tryd.results79, go_sem, p0, p1, p2, p3, p4, V.agg]) rfl (DV.gr (p := w.heap.size) rfl H1.out H2.out H4.out HZ9 (Nat.le_refl _) D9.out hbw ?hd)
  case hd => repeat (first | exact Gr.refl _ _ | (refine Gr.trans ?_ (Gr.set _ _ _ _)))

set_option maxHeartbeats 16000000 in
theorem mk_succ (d : Nat) (hd : d ≤ 2) (ih : MkSaid d) : MkSaid (d + 1) := by
  intro plain b A cap code w hc
  have hbw : b < w.heap.size := hc.lt
  have hpb : w.heap.size ≠ b := by omega
  have hd1 : ((d + 1 : Nat) : Int) = (d : Int) + 1 := by omega
  rw [hd1]
  have hd2 : ¬ ((d : Int) + 1 ≤ 0) := by omega
  have hd3 : (0 : Int) < (d : Int) + 1 := by omega
  have IH := Lib.hid ih
  clear ih hd1
  have B1 := Lib.hid (Blk.new w 28 #[.int .i64 0, .int .i64 0, .int .i64 0, .string ⟨#[]⟩, .slice none 0 0])
  have D1 := Lib.hid (Drawn.alloc hc (.cells #[.int .i64 0, .int .i64 0, .int .i64 0, .string ⟨#[]⟩, .slice none 0 0] 28))
  have Z1 : Hid ((w.alloc (.cells #[.int .i64 0, .int .i64 0, .int .i64 0, .string ⟨#[]⟩, .slice none 0 0] 28)).heap.size = w.heap.size + 1) := Lib.hid (by simp)
  clear hc
  go_enter Tryd.func79, Tryd.ntmps79
  go_wp2_with fail
  refine Calls.atW (fun w1 => Hid (Blk w1 w.heap.size 28 #[.int .i64 0, .int .i64 0, .int .i64 0, .string ⟨#[]⟩, .slice none 0 0]) ∧ Hid (Drawn w b A cap code w1) ∧ w1.heap.size = w.heap.size + 1) ⟨B1, D1, Z1.out⟩ ?_
  clear B1 D1 Z1
  rintro w1 ⟨B1, D1, Z1⟩
  refine (dOnce 3 b A cap code w1 (by omega) (by omega) D1.out.1).mono ?_
  rintro e w2 ⟨⟨r, rfl⟩, hd2⟩
  have D2 := Lib.hid (D1.out.trans hd2)
  have B2 := Lib.hid (res_cells B1.out hpb hd2.2)
  have hzp : w.heap.size < w2.heap.size := by have := hd2.2.size; omega
  have hbp : b < w2.heap.size := by omega
  clear hd2 B1 D1 Z1
  cases r
  · go_wp2_with fail
    refine Calls.atW (fun w3 => Hid (Blk w3 w.heap.size 28 #[.int .i64 0, .int .i64 0, .int .i64 0, .string ⟨#[]⟩, .slice none 0 0]) ∧ Hid (MkAt w b w2.heap.size A cap code 7 [] none 0 w3)) ⟨Lib.hid (B2.out.alloc _), Lib.hid (MkAt.start (Blk.new w2 28 #[.int .i64 7, .int .i64 0, .int .i64 0, .string ⟨#[]⟩, .slice none 0 0]) ⟨D2.out.1.alloc _, D2.out.2.alloc _⟩)⟩ ?_
    clear B2
    rintro w3 ⟨B3, M3⟩
    refine (dBelow 4 b A cap code w3 (by omega) (by omega) M3.out.drawn.1).mono ?_
    rintro e w4 ⟨⟨n, hn, rfl⟩, hd4⟩
    have M4 := Lib.hid (M3.out.gr hbp hd4)
    have B4 := Lib.hid (res_cells B3.out hpb hd4.2)
    clear hd4 B3 M3
    go_wp2_with fail
    refine (dBelow 5 b A cap code w4 (by omega) (by omega) M4.out.drawn.1).mono ?_
    rintro e w5 ⟨⟨k, hk, rfl⟩, hd5⟩
    have M5 := Lib.hid (M4.out.gr hbp hd5)
    have B5 := Lib.hid (res_cells B4.out hpb hd5.2)
    clear hd5 B4 M4
    have h4 : ∀ (K : Prop), (k = 0 ∧ plain = false) ∨ (k = 1 ∨ k = 2) ∨ ((k = 0 ∧ plain = true) ∨ k = 3 ∨ k = 4) := fun _ => by
      cases plain
      · simp; omega
      · simp; omega
    have HX := Lib.hid (h4 True)
    clear h4 hk
    rcases HX.out with ⟨rfl, rfl⟩ | hm | hl
    · go_wp2_with fail
      refine (dPickIntNew mkTg b A cap code _ (by decide) (by decide) M5.out.drawn.1).mono ?_
      rintro e w6 ⟨⟨z, hz, rfl⟩, hd6⟩
      have D6 := Lib.hid (M5.out.drawn.trans hd6)
      have B6 := Lib.hid (res_cells B5.out hpb hd6.2)
      have hz2 := mkTg_in z hz
      clear hd6 B5 M5 hz
      have hwr : IntKind.i64.wrap ((d : Int) + 1 - 1) = (d : Int) := by rw [IntKind.wrap_i64]; omega
      go_wp2_with fail
      refine (IH.out false b A cap code w6 D6.out.1).mono ?_
      intro e w7 hdv; obtain ⟨v, B, c, F, rfl, h1, h2, h3, h4, h5, h6, h7⟩ := hdv.opened
      have H1 := Lib.hid h1
      have H4 := Lib.hid (kidsLie_one h3 h4)
      have HZ := D6.out.2.size
      have D7 := Lib.hid (D6.out.trans h7)
      have B7 := Lib.hid (res_cells B6.out hpb h7.2)
      have H5 := Lib.hid h5
      have H6 := Lib.hid h6
      have HZ7 : w.heap.size < w7.heap.size := B7.out.lt
      have HZ6 : w.heap.size < w6.heap.size := B6.out.lt
      clear h1 h4 h5 h6 h7
      have B9 := B7.out
      obtain ⟨p0, p1, p2, p3, p4⟩ := B9.five
      have f0 := B9.frozen 0
      have f1 := B9.frozen 1
      have f2 := B9.frozen 2
      have f3 := B9.frozen 3
      have f4 := B9.frozen 4
      clear B9
      unfold V.agg
      go_wp2_with fail
      refine bodyPost_ret (v := .agg #[.int .i64 9, .int .i64 z, .int .i64 0, .string ⟨#[]⟩, .slice (some ⟨w7.heap.size, 0, none⟩) 1 1]) (by simp [results, Tryd.results79, go_sem, p0, p1, p2, p3, p4, HZ7]) rfl (DV.row (k := 9) (n := z) (x := 0) (s := ⟨#[]⟩) (es := [(v, B, c)]) (p := w.heap.size) rfl ?hf ?hw H4.out H5.out (fun x hx => ?hx) (Nat.le_refl _) HZ7 D7.out hbw ?hd (by simp) rfl (by simp))
      case hf => exact (V.fits_eq _).2 ⟨by show (0 : Nat) ≤ _; omega, by show (1 : Nat) ≤ _; omega, by show Vs.fits [v]; simp only [Vs.fits]; exact ⟨H1.out, trivial⟩, by show inI 9; unfold inI; omega, hz2, by show inI 0; unfold inI; omega⟩
      case hw => rw [V.weight_eq, WK_up]; show 0 + Vs.weight [v] ≤ _; simp only [Vs.weight]; omega
      case hx => have := H6.out x hx; omega
      case hd => repeat (first | exact Gr.refl _ _ | (refine Gr.trans ?_ (Gr.set _ _ _ _)))
    · have q0 : ((k : Int) == 0) = false := by rw [beq_eq_false_iff_ne]; omega
      have q0n : ¬ (k : Int) = 0 := by omega
      all_goals
        go_upto_if 40 with fail
        go_cut [40] from 41 to 42 (fun z wx => z = .bool true ∧ wx = w5)
        case first =>
          rcases hm with rfl | rfl
          all_goals
            go_wp2_with fail
            go_meet
            case rel => exact ⟨rfl, rfl⟩
        case rest =>
        obtain ⟨rfl, rfl⟩ := hcut
        have B6 := Lib.hid M5.out.blk
        have B9 := B6.out
        obtain ⟨p0, p1, p2, p3, p4⟩ := B9.five
        have f0 := B9.frozen 0
        have f1 := B9.frozen 1
        have f2 := B9.frozen 2
        have f3 := B9.frozen 3
        have f4 := B9.frozen 4
        clear B9
        go_wp2_with fail
        clear p0 p1 p2 p3 p4 f0 f1 f2 f3 f4
        go_loopw [9] (fun i wr => MkRel 2 (WK d + 12) n w b w2.heap.size A cap code 8 w.heap.size i wr) (fun i _ => n - (intOf i).toNat)
        case atStart => exact ⟨0, [], none, 0, rfl, Nat.zero_le _, rfl, Lib.hid (M5.out.kind hbw (by omega) 8), Lib.hid ⟨by simp [Vs.fits], by simp [Vs.weight]⟩, Lib.hid (res_cells B5.out (b := w2.heap.size) (by omega) (Gr.set _ _ _ _))⟩
        case round =>
          obtain ⟨j, es, oA, oc, rfl, hj, hel, HM, HW, HB⟩ := hrel
          by_cases hlt : j < n
          · have hlt2 : (j : Int) < (n : Int) := by omega
            have hlt4 : (j : Int) < 4 := by omega
            have hj4 : j < 4 := by omega
            have hwr : IntKind.i64.wrap ((d : Int) + 1 - 1) = (d : Int) := by rw [IntKind.wrap_i64]; omega
            have hwr2 : IntKind.i64.wrap (d : Int) = (d : Int) := by rw [IntKind.wrap_i64]; omega
            obtain ⟨i0, hi, hz0, hz1, hz2⟩ := info_parts infoV
            have hsm : es.length ≤ 6 := by omega
            have HEL := Lib.hid hel
            have KL := mkKey_at j hj4
            have KA : (#[.string ⟨#[110, 97, 109, 101]⟩, .string ⟨#[105, 100]⟩, .string ⟨#[108, 105, 115, 116]⟩, .string ⟨#[99, 111, 109, 109, 111, 110, 32, 107, 101, 121]⟩] : Array Value)[j]? = some (.string (mkKey j)) := by rw [List.getElem?_toArray]; exact KL
            have KC : (wr.alloc (.cells #[.string ⟨#[110, 97, 109, 101]⟩, .string ⟨#[105, 100]⟩, .string ⟨#[108, 105, 115, 116]⟩, .string ⟨#[99, 111, 109, 109, 111, 110, 32, 107, 101, 121]⟩] 9)).cell? ⟨wr.heap.size, j, none⟩ = some (.string (mkKey j)) := (Blk.new wr 9 #[.string ⟨#[110, 97, 109, 101]⟩, .string ⟨#[105, 100]⟩, .string ⟨#[108, 105, 115, 116]⟩, .string ⟨#[99, 111, 109, 109, 111, 110, 32, 107, 101, 121]⟩]).cell j |>.trans KA
            have HKS := Lib.hid (mkKey_size j)
            have HD1 := Lib.hid ((Drawn.refl HM.out.drawn.1).trans (Drawn.alloc HM.out.drawn.1 (.cells #[.string ⟨#[110, 97, 109, 101]⟩, .string ⟨#[105, 100]⟩, .string ⟨#[108, 105, 115, 116]⟩, .string ⟨#[99, 111, 109, 109, 111, 110, 32, 107, 101, 121]⟩] 9)))
            clear hel
            go_wp2_with fail
            refine (drawStr (mkKey j) _).mono ?_
            rintro e w6 ⟨rfl, hb6⟩
            have HD6 := Lib.hid (HD1.out.trans (Drawn.of HD1.out.1 hb6))
            clear hb6 KC KA KL HD1
            unfold V.agg
            go_upto_region 16 with fail
            go_cut [59] from 54 to 61 (fun z wx => ∃ rb : Bool, z = .bool rb ∧ (rb = true → plain = false) ∧ Hid (Drawn wr b A cap code wx) ∧ Hid (Blk wx w6.heap.size 28 #[.int .i64 5, .int .i64 0, .int .i64 0, .string (mkKey j), .slice none 0 0]))
            case first =>
              go_wp2_with fail
              refine Calls.atW (fun w7 => Hid (Drawn wr b A cap code w7) ∧ Hid (Blk w7 w6.heap.size 28 #[.int .i64 5, .int .i64 0, .int .i64 0, .string (mkKey j), .slice none 0 0])) ⟨Lib.hid (HD6.out.trans (Drawn.alloc HD6.out.1 _)), Lib.hid (Blk.new w6 28 _)⟩ ?_
              rintro w7 ⟨HD7, HK7⟩
              refine (dOnce 8 b A cap code w7 (by omega) (by omega) HD7.out.1).mono ?_
              rintro e w8 ⟨⟨r2, rfl⟩, hd8⟩
              have hg6 : w6.heap.size ≠ b := by have := HD6.out.2.size; have := HM.out.drawn.2.size; omega
              have HDW := Lib.hid (HD7.out.trans hd8)
              have HK := Lib.hid (res_cells HK7.out hg6 hd8.2)
              clear hd8 HD7 HK7
              cases r2
              · go_wp2_with fail
                go_meet
                case rel => exact ⟨false, rfl, by simp, HDW, HK⟩
              · cases plain
                · go_wp2_with fail
                  go_meet
                  case rel => exact ⟨true, rfl, by simp, HDW, HK⟩
                · go_wp2_with fail
                  go_meet
                  case rel => exact ⟨false, rfl, by simp, HDW, HK⟩
            case rest =>
            obtain ⟨rb, rfl, hrb, HDW, HK⟩ := hcut
            obtain ⟨wd, hwd⟩ : ∃ wd, wd = wc := ⟨_, rfl⟩
            subst hwd
            go_upto_if 59 with fail
            go_cut [59] from 60 to 61 (fun z wx => ∃ (kk nn : Int) (ss : ByteArray), Hid (Drawn wr b A cap code wx) ∧ Hid (Blk wx w6.heap.size 28 #[.int .i64 kk, .int .i64 nn, .int .i64 0, .string ss, .slice none 0 0]) ∧ Hid ((V.mk kk nn 0 ss []).fits) ∧ Hid (ss.size ≤ 10))
            case first =>
              cases rb
              · go_wp2_with fail
                go_meet
                case rel => exact ⟨5, 0, mkKey j, HDW, HK, Lib.hid (key_fits 5 0 _ (by unfold inI; omega) (by unfold inI; omega) HKS.out), HKS⟩
              · obtain rfl := hrb rfl
                go_wp2_with fail
                refine (drawInt (j : Int) _).mono ?_
                rintro e w11 ⟨rfl, hb11⟩
                have HDX := Lib.hid (HDW.out.trans (Drawn.of HDW.out.1 hb11))
                have HKX := Lib.hid (HK.out.below hb11 HK.out.lt)
                clear hb11 HK HDW
                have B9 := HKX.out
                obtain ⟨p0, p1, p2, p3, p4⟩ := B9.five
                have f0 := B9.frozen 0
                have f1 := B9.frozen 1
                have f2 := B9.frozen 2
                have f3 := B9.frozen 3
                have f4 := B9.frozen 4
                clear B9
                unfold V.agg
                go_wp2_with fail
                go_meet
                case rel =>
                  refine ⟨3, j, ⟨#[]⟩, Lib.hid ?_, Lib.hid ?_, Lib.hid (key_fits 3 _ _ (by unfold inI; omega) (by unfold inI; omega) (Nat.zero_le _)), Lib.hid (Nat.zero_le _)⟩
                  · have hz6 := HD6.out.2.size
                    refine drawn_over HDX.out (by have := HM.out.drawn.2.size; omega) ?_
                    repeat (first | exact Below.refl _ _ | (refine Below.setCell ?_ (by simp; try omega) _))
                  · have h := ((((HKX.out.set 0 (.int .i64 3)).set 1 (.int .i64 (j : Int))).set 2 (.int .i64 0)).set 3 (.string ⟨#[]⟩)).set 4 (.slice none 0 0)
                    simpa [V.k, V.n, V.e, V.s, V.kids] using h
            case rest =>
              clear HKS
              obtain ⟨kk, nn, ss, HDW, HK, HKF, HKS⟩ := hcut
              go_wp2_with fail
              have B6 := Lib.hid (HM.out.gr hbp HDW.out).blk
              have B6b := B6.out
              obtain ⟨p0, p1, p2, p3, p4⟩ := B6b.five
              have f4 := B6b.frozen 4
              clear B6b
              obtain ⟨k0, k1, k2, k3, k4⟩ := HK.out.five
              have HMD := Lib.hid (HDW.out.1.drew)
              have hgp : b ≠ w6.heap.size := by have := HM.out.drawn.2.size; have := HD6.out.2.size; omega
              go_region_law (first
                | (refine step_append_lies _ (by rfl) (.tmp 63) (.tmp 70) 26 (by rfl) (w2.heap.size + 1) 28 i0 _ 5 64 Tryd.underlying26 hi hz0 hz1 hz2 (by rfl) (by omega) (.slice oA es.length oc) es.length (flat es) (by rfl) (HO.out.alloc _) ⟨w9.heap.size, 0, none⟩ 2 2 (flat [(V.mk kk nn 0 ss [], none, 0), (v, B, c)]) (by rfl) (by rfl) HN.out (flat_ones _) (by omega) (by unfold maxLen; omega) (by omega) (by simp; omega) _ rfl ?_
                   intro g c' w10 hown' hgr hat hlt'
                   have B8 := Lib.hid (HM.out.far hbp HD9.out ((Below.refl _ _).alloc (Nat.le_refl _) _) hgr)
                   have q4 := (B8.out.five).2.2.2.2
                   have e4 := B8.out.frozen 4)
                | (go_simp
                   go_at_call 79
                   refine (IH.out _ b A cap code _ HMD.out).mono ?_
                   intro e w9 hdv; obtain ⟨v, B, c, F, rfl, h1, h2, h3, h4, h5, h6, h7⟩ := hdv.opened
                   have HZW := HDW.out.2.size
                   have HD9 := Lib.hid (HDW.out.trans (Drawn.undrew h7))
                   have HO := Lib.hid (HM.out.own HD9.out.2 hbp)
                   have HN := Lib.hid (cells_new w9 (flat [(V.mk kk nn 0 ss [], none, 0), (v, B, c)]).toArray 28)
                   have HK9 := Lib.hid (res_cells HK.out (Ne.symm hgp) (Drawn.undrew h7).2)
                   obtain ⟨l0, l1, l2, l3, l4⟩ := HK9.out.five
                   have H1 := Lib.hid h1
                   have H4 := Lib.hid h4
                   have H5 := Lib.hid h5
                   have H6 := Lib.hid h6
                   have B6 := Lib.hid (HM.out.gr hbp HD9.out).blk
                   have q4 := (B6.out.five).2.2.2.2
                   have hwz : w2.heap.size < w9.heap.size := B6.out.lt
                   clear h1 h4 h5 h6 h7
                   unfold V.agg))
              all_goals
                go_wp2_with fail
                go_roundw
                case rel => exact MkRel.next (xs := [(V.mk kk nn 0 ss [], none, 0), (v, B, c)]) HM.out HW.out HB.out hlt HEL.out (by rfl) (by simp only [List.map_cons, List.map_nil, Vs.fits]; exact ⟨HKF.out, H1.out, trivial⟩) (by simp only [List.map_cons, List.map_nil, Vs.weight, V.weight]; have := HKS.out; omega) hbw (by omega) hpb hzp (kidsLie_append [_] [_] [] _ (kidsLie_one (Nat.le_refl 0) (.inl ⟨rfl, rfl⟩)) (kidsLie_one h3 H4.out)) H5.out (fun x hx => Nat.le_trans HZW (H6.out x hx)) HD9.out ((Below.refl _ _).alloc (Nat.le_refl _) _) hown' hgr hat
                case measure => simp [intOf]; omega
          · have hjn : j = n := by omega
            have h3n : n ≤ 3 := by omega
            have HEL := Lib.hid hel
            clear hlt hj hn hel
            subst hjn
            have hjw : j * (WK d + 12) ≤ 3 * (WK d + 12) := Nat.mul_le_mul_right _ h3n
            have HC := Lib.hid HM.out.blk
            obtain ⟨q0, q1, q2, q3, q4⟩ := HC.out.five
            have B9 := HB.out
            obtain ⟨p0, p1, p2, p3, p4⟩ := B9.five
            have f0 := B9.frozen 0
            have f1 := B9.frozen 1
            have f2 := B9.frozen 2
            have f3 := B9.frozen 3
            have f4 := B9.frozen 4
            clear B9
            go_wp2_with fail
            obtain ⟨G, _, hrow, _⟩ := HM.out
            refine bodyPost_ret (v := .agg #[.int .i64 8, .int .i64 0, .int .i64 0, .string ⟨#[]⟩, .slice oA es.length oc]) (by simp [results, Tryd.results79, go_sem, p0, p1, p2, p3, p4, q0, q1, q2, q3, q4]) rfl (DV.gr (k := 8) (n := 0) (x := 0) (s := ⟨#[]⟩) (es := es) (B := oA) (c := oc) (p := w.heap.size) (by simp [V.agg, V.k, V.n, V.e, V.s, V.kids]) ?hf ?hw hrow (by omega) (Nat.le_refl _) HM.out.drawn hbw ?hd)
            case hf => exact (V.fits_eq _).2 ⟨by show (0 : Nat) ≤ _; omega, by show (es.map (·.1)).length ≤ _; have := HEL.out; simp; omega, HW.out.1, by show inI 8; unfold inI; omega, by show inI 0; unfold inI; omega, by show inI 0; unfold inI; omega⟩
            case hw => rw [V.weight_eq, WK_up]; show 0 + Vs.weight (es.map (·.1)) ≤ _; have := HW.out.2; omega
            case hd => repeat (first | exact Gr.refl _ _ | (refine Gr.trans ?_ (Gr.set _ _ _ _)))

    · rcases hl with ⟨rfl, rfl⟩ | rfl | rfl
      all_goals
        go_wp2_with fail
        go_loopw [11] (fun i wr => MkRel 1 (WK d + 1) n w b w2.heap.size A cap code 7 w.heap.size i wr) (fun i _ => n - (intOf i).toNat)
        case atStart => exact ⟨0, [], none, 0, rfl, Nat.zero_le _, rfl, M5, Lib.hid ⟨by simp [Vs.fits], by simp [Vs.weight]⟩, B5⟩
        case round =>
          obtain ⟨j, es, oA, oc, rfl, hj, hel, HM, HW, HB⟩ := hrel
          by_cases hlt : j < n
          · have hlt2 : (j : Int) < (n : Int) := by omega
            have B6 := Lib.hid HM.out.blk
            have B9 := B6.out
            obtain ⟨p0, p1, p2, p3, p4⟩ := B9.five
            have f0 := B9.frozen 0
            have f1 := B9.frozen 1
            have f2 := B9.frozen 2
            have f3 := B9.frozen 3
            have f4 := B9.frozen 4
            clear B9
            have HMD := Lib.hid (HM.out.drawn.1.drew)
            have hwr : IntKind.i64.wrap ((d : Int) + 1 - 1) = (d : Int) := by rw [IntKind.wrap_i64]; omega
            have hwr2 : IntKind.i64.wrap (d : Int) = (d : Int) := by rw [IntKind.wrap_i64]; omega
            obtain ⟨i0, hi, hz0, hz1, hz2⟩ := info_parts infoV
            have hsm : es.length ≤ 3 := by omega
            have HEL := Lib.hid hel
            clear hel
            go_wp2_with fail
            go_region_law (first
              | (refine step_append_lies _ (by rfl) (.tmp 80) (.tmp 86) 26 (by rfl) (w2.heap.size + 1) 28 i0 _ 5 64 Tryd.underlying26 hi hz0 hz1 hz2 (by rfl) (by omega) (.slice oA es.length oc) es.length (flat es) (by rfl) (HO.out.alloc _) ⟨w6.heap.size, 0, none⟩ 1 1 (Ent.cells (v, B, c)) (by rfl) (by rfl) HN.out (ent_ones' _) (by omega) (by unfold maxLen; omega) (by omega) (by simp; omega) _ rfl ?_
                 intro g c' w8 hown' hgr hat hlt'
                 have B8 := Lib.hid (HM.out.far hbp HD6.out ((Below.refl _ _).alloc (Nat.le_refl _) _) hgr)
                 have q4 := (B8.out.five).2.2.2.2
                 have e4 := B8.out.frozen 4)
              | (go_simp
                 go_at_call 79
                 refine (IH.out _ b A cap code _ HMD.out).mono ?_
                 intro e w6 hdv; obtain ⟨v, B, c, F, rfl, h1, h2, h3, h4, h5, h6, h7⟩ := hdv.opened
                 have HD6 := Lib.hid (Drawn.undrew h7)
                 have HO := Lib.hid (HM.out.own HD6.out.2 hbp)
                 have HN := Lib.hid (cells_new w6 (Ent.cells (v, B, c)).toArray 28)
                 have H1 := Lib.hid h1
                 have H4 := Lib.hid h4
                 have H5 := Lib.hid h5
                 have H6 := Lib.hid h6
                 have B6 := Lib.hid (HM.out.gr hbp HD6.out).blk
                 have q4 := (B6.out.five).2.2.2.2
                 have hwz : w2.heap.size < w6.heap.size := B6.out.lt
                 clear h1 h4 h5 h6 h7
                 unfold V.agg))
            all_goals
              go_wp2_with fail
              go_roundw
              case rel => exact MkRel.next HM.out HW.out HB.out hlt HEL.out (by rfl) (by simp only [List.map_cons, List.map_nil, Vs.fits]; exact ⟨H1.out, trivial⟩) (by simp only [List.map_cons, List.map_nil, Vs.weight]; omega) hbw (by omega) hpb hzp (kidsLie_one h3 H4.out) H5.out (fun x hx => H6.out x hx) HD6.out ((Below.refl _ _).alloc (Nat.le_refl _) _) (by simpa [flat] using hown') hgr hat
              case measure => simp [intOf]; omega
          · have hjn : j = n := by omega
            have h3n : n ≤ 3 := by omega
            have HEL := Lib.hid hel
            clear hlt hj hn hel
            subst hjn
            have hjw : j * (WK d + 1) ≤ 3 * (WK d + 1) := Nat.mul_le_mul_right _ h3n
            have HC := Lib.hid HM.out.blk
            obtain ⟨q0, q1, q2, q3, q4⟩ := HC.out.five
            have B9 := HB.out
            obtain ⟨p0, p1, p2, p3, p4⟩ := B9.five
            have f0 := B9.frozen 0
            have f1 := B9.frozen 1
            have f2 := B9.frozen 2
            have f3 := B9.frozen 3
            have f4 := B9.frozen 4
            clear B9
            go_wp2_with fail
            obtain ⟨G, _, hrow, _⟩ := HM.out
            refine bodyPost_ret (v := .agg #[.int .i64 7, .int .i64 0, .int .i64 0, .string ⟨#[]⟩, .slice oA es.length oc]) (by simp [results, Tryd.results79, go_sem, p0, p1, p2, p3, p4, q0, q1, q2, q3, q4]) rfl (DV.gr (k := 7) (n := 0) (x := 0) (s := ⟨#[]⟩) (es := es) (B := oA) (c := oc) (p := w.heap.size) (by simp [V.agg, V.k, V.n, V.e, V.s, V.kids]) ?hf ?hw hrow (by omega) (Nat.le_refl _) HM.out.drawn hbw ?hd)
            case hf => exact (V.fits_eq _).2 ⟨by show (0 : Nat) ≤ _; omega, by show (es.map (·.1)).length ≤ _; have := HEL.out; simp; omega, HW.out.1, by show inI 7; unfold inI; omega, by show inI 0; unfold inI; omega, by show inI 0; unfold inI; omega⟩
            case hw => rw [V.weight_eq, WK_up]; show 0 + Vs.weight (es.map (·.1)) ≤ _; have := HW.out.2; omega
            case hd => repeat (first | exact Gr.refl _ _ | (refine Gr.trans ?_ (Gr.set _ _ _ _)))

  · go_wp2_with fail
    refine (dLeaf plain b A cap code w2 D2.out.1).mono ?_
    rintro e w9 ⟨vk, vn, vx, vs, es, B, c, G, rfl, h1, h2, h4, h7⟩
    have H1 := Lib.hid h1
    have H2 := Lib.hid h2
    have H4 := Lib.hid h4
    have D9 := Lib.hid (D2.out.trans h7)
    have B8 := Lib.hid (res_cells B2.out hpb h7.2)
    have HZ9 := B2.out.lt
    clear h1 h2 h4 h7
    have B9 := B8.out
    obtain ⟨p0, p1, p2, p3, p4⟩ := B9.five
    have f0 := B9.frozen 0
    have f1 := B9.frozen 1
    have f2 := B9.frozen 2
    have f3 := B9.frozen 3
    have f4 := B9.frozen 4
    clear B9
    unfold V.agg
    go_wp2_with fail
    refine bodyPost_ret (v := (V.mk vk vn vx vs (es.map (·.1))).agg B c) (by simp [results, Tryd.results79, go_sem, p0, p1, p2, p3, p4, V.agg]) rfl (DV.gr (p := w.heap.size) rfl H1.out (by rw [WK_up]; have := WK_ge d; have := H2.out; omega) H4.out HZ9 (Nat.le_refl _) D9.out hbw ?hd)
    case hd => repeat (first | exact Gr.refl _ _ | (refine Gr.trans ?_ (Gr.set _ _ _ _)))

theorem mk_said : ∀ d, d ≤ 3 → MkSaid d
  | 0, _ => mk_zero
  | d + 1, h => mk_succ d (by omega) (mk_said d (by omega))
end Go.Proofs.YtcjamnfboifjeaaDoor

/-
  The draws of values: any value.
-/
namespace Go.Proofs.YtcjamnfboifjeaaDoor
open Go.RowKit
set_option linter.unusedVariables false
set_option linter.unusedSimpArgs false
set_option maxRecDepth 100000

theorem RowOf.grx {w w' : World} {base : Nat} {o : Value} {es : List Ent} {G : List Nat} {p : Nat} (h : RowOf w base o es G) (hg : Gr p w w') (h1 : p ∉ G) (h2 : ∀ g, o.ownBlock = some g → g ≠ p) : RowOf w' base o es G := by
  refine ⟨⟨h.own.1, ?_⟩, kidsLie_same es G h.kids ⟨hg.size, fun c hc => hg.block c (h.lt c hc) (by intro e; injection e with e; exact h1 (e ▸ hc))⟩, h.nodup, h.low, h.apart⟩
  rcases h.own.2 with h' | ⟨g, c, cur, rfl, k1, k2, k3⟩
  · exact .inl h'
  · refine .inr ⟨g, c, cur, rfl, k1, (hg.block g (h.own.lt g rfl).2 ?_).trans k2, k3⟩
    intro e
    injection e with e
    exact h2 g rfl e
/-- A value in its cells, its row elsewhere. -/
def VAt (w : World) (b p base : Nat) (A : Option Addr) (cap : Nat) (code : List UInt8) (k n x : Int) (s : ByteArray) (es : List Ent) (B : Option Addr) (c : Nat) (wr : World) : Prop :=
  ∃ G, Blk wr p 28 #[.int .i64 k, .int .i64 n, .int .i64 x, .string s, .slice B es.length c] ∧ RowOf wr base (.slice B es.length c) es G ∧ p ∉ G ∧ (∀ g, (Value.slice B es.length c).ownBlock = some g → g ≠ p) ∧ Drawn w b A cap code wr
theorem VAt.gr {w wr w1 : World} {b p base : Nat} {A : Option Addr} {cap : Nat} {code : List UInt8} {k n x : Int} {s : ByteArray} {es : List Ent} {B : Option Addr} {c : Nat} (h : VAt w b p base A cap code k n x s es B c wr) (hb : b < base) (hbp : b ≠ p) (hd : Drawn wr b A cap code w1) : VAt w b p base A cap code k n x s es B c w1 := by
  obtain ⟨G, h1, h2, h3, h4, h5⟩ := h
  exact ⟨G, blk_gr h1 (Ne.symm hbp) hd.2, h2.gr hd.2 hb, h3, h4, h5.trans hd⟩
theorem VAt.blk {w wr : World} {b p base : Nat} {A : Option Addr} {cap : Nat} {code : List UInt8} {k n x : Int} {s : ByteArray} {es : List Ent} {B : Option Addr} {c : Nat} (h : VAt w b p base A cap code k n x s es B c wr) : Blk wr p 28 #[.int .i64 k, .int .i64 n, .int .i64 x, .string s, .slice B es.length c] := by
  obtain ⟨G, h1, _⟩ := h
  exact h1
theorem VAt.drawn {w wr : World} {b p base : Nat} {A : Option Addr} {cap : Nat} {code : List UInt8} {k n x : Int} {s : ByteArray} {es : List Ent} {B : Option Addr} {c : Nat} (h : VAt w b p base A cap code k n x s es B c wr) : Drawn w b A cap code wr := by
  obtain ⟨G, _, _, _, _, h1⟩ := h
  exact h1
/-- A field stored. -/
theorem VAt.set {w wr : World} {b p base : Nat} {A : Option Addr} {cap : Nat} {code : List UInt8} {k n x k' n' x' : Int} {s s' : ByteArray} {es : List Ent} {B : Option Addr} {c : Nat} (h : VAt w b p base A cap code k n x s es B c wr) (hb : b < w.heap.size) (hp : w.heap.size ≤ p) (i : Nat) (u : Value)
    (hi : (#[.int .i64 k, .int .i64 n, .int .i64 x, .string s, .slice B es.length c] : Array Value).setIfInBounds i u = #[.int .i64 k', .int .i64 n', .int .i64 x', .string s', .slice B es.length c]) : VAt w b p base A cap code k' n' x' s' es B c (wr.setCell ⟨p, i, none⟩ u) := by
  obtain ⟨G, h1, h2, h3, h4, h5⟩ := h
  refine ⟨G, by have h := h1.set i u; rw [hi] at h; exact h, h2.grx (Gr.set p wr i u) h3 h4, h3, h4, drawn_over h5 hb ((Below.refl w.heap.size wr).setCell hp _)⟩
/-- The value handed back. -/
theorem VAt.res {K : Nat} {w w1 W : World} {b p base r : Nat} {A : Option Addr} {cap : Nat} {code : List UInt8} {k n x : Int} {s : ByteArray} {es : List Ent} {B : Option Addr} {c : Nat} {e : Ending} (h : VAt w b p base A cap code k n x s es B c w1) (he : e = .returned ((V.mk k n x s (es.map (·.1))).agg B c))
    (hf : (V.mk k n x s (es.map (·.1))).fits) (hw : (V.mk k n x s (es.map (·.1))).weight ≤ K) (hr : r < base) (hp : w.heap.size ≤ r) (hb : b < w.heap.size) (hg : Gr r w1 W) : DV K w w b A cap code e W := by
  obtain ⟨G, h1, h2, h3, h4, h5⟩ := h
  exact DV.gr he hf hw h2 hr hp h5 hb hg
/-- The value's cells laid in a new block. -/
theorem VAt.start {w w3 : World} {b base : Nat} {A : Option Addr} {cap : Nat} {code : List UInt8} {k n x : Int} {s : ByteArray} {es : List Ent} {B : Option Addr} {c : Nat} {G : List Nat} (h : RowOf w3 base (.slice B es.length c) es G) (hd : Drawn w b A cap code w3) :
    VAt w b w3.heap.size base A cap code k n x s es B c (w3.alloc (.cells #[.int .i64 k, .int .i64 n, .int .i64 x, .string s, .slice B es.length c] 28)) :=
  ⟨G, Blk.new w3 28 _, h.alloc _, fun hx => by have := h.lt _ hx; omega, fun g hg => by have := (h.own.lt g hg).2; omega, hd.trans (Drawn.alloc hd.1 _)⟩

theorem VAt.own {w wr w1 : World} {b p base : Nat} {A : Option Addr} {cap : Nat} {code : List UInt8} {k n x : Int} {s : ByteArray} {es : List Ent} {B : Option Addr} {c : Nat} (h : VAt w b p base A cap code k n x s es B c wr) (hb : b < base) (hg : Gr b wr w1) : w1.ownsRow base 28 5 (.slice B es.length c) es.length (flat es) := by
  obtain ⟨G, _, h2, _⟩ := h
  exact own_gr h2.own hg hb
theorem VAt.far {w wr w1 w2 w' : World} {b p base : Nat} {A : Option Addr} {cap : Nat} {code : List UInt8} {k n x : Int} {s : ByteArray} {es : List Ent} {B : Option Addr} {c : Nat} (h : VAt w b p base A cap code k n x s es B c wr) (hbp : b ≠ p) (hd1 : Drawn wr b A cap code w1) (h2 : Below w1.heap.size w1 w2)
    (hg : w2.grownBy w' (Value.slice B es.length c).ownBlock) : Blk w' p 28 #[.int .i64 k, .int .i64 n, .int .i64 x, .string s, .slice B es.length c] := by
  obtain ⟨G, h3, h4, h5, h6, h7⟩ := h
  have e1 := blk_gr h3 (Ne.symm hbp) hd1.2
  have e2 := e1.below h2 e1.lt
  exact (hg.block p e2.lt fun e => h6 p e.symm rfl).trans e2
theorem VAt.other {w wr w1 w2 w' : World} {b p base : Nat} {A : Option Addr} {cap : Nat} {code : List UInt8} {k n x : Int} {s : ByteArray} {es : List Ent} {B : Option Addr} {c : Nat} (h : VAt w b p base A cap code k n x s es B c wr) (hd1 : Drawn wr b A cap code w1) (h2 : Below w1.heap.size w1 w2)
    (hg : w2.grownBy w' (Value.slice B es.length c).ownBlock) {r : Nat} {t : TypeId} {cs : Array Value} (hr : Blk wr r t cs) (hrb : r ≠ b) (hrp : r ≠ p) (hrl : r < base) (i : Nat) (u : Value) : Blk (w'.setCell ⟨p, i, none⟩ u) r t cs := by
  obtain ⟨G, h3, h4, h5, h6, h7⟩ := h
  have e1 := blk_gr hr hrb hd1.2
  have e2 := e1.below h2 e1.lt
  have e3 : Blk w' r t cs := (hg.block r e2.lt fun e => by have := (h4.own.lt r e.symm).1; omega).trans e2
  exact blk_gr e3 hrp (Gr.set p w' i u)
theorem VAt.app {w wr w1 w2 w' : World} {b p base : Nat} {A : Option Addr} {cap : Nat} {code : List UInt8} {k n x : Int} {s : ByteArray} {es : List Ent} {B : Option Addr} {c : Nat} {xs : List Ent} {F : List Nat} {g c' : Nat}
    (hm : VAt w b p base A cap code k n x s es B c wr) (hb : b < w.heap.size) (hbase : w.heap.size ≤ base) (hbw : base ≤ wr.heap.size) (hp : w.heap.size ≤ p) (hl : kidsLie w1 xs F) (hnd : F.Nodup) (hF : ∀ x ∈ F, wr.heap.size ≤ x) (hd1 : Drawn wr b A cap code w1) (h2 : Below w1.heap.size w1 w2)
    (hown' : w'.ownsRow base 28 5 (.slice (some ⟨g, 0, none⟩) (es.length + xs.length) c') (es.length + xs.length) (flat es ++ flat xs)) (hg : w2.grownBy w' (Value.slice B es.length c).ownBlock) (hat : (Value.slice B es.length c).ownBlock = some g ∨ g = w2.heap.size) :
    VAt w b p base A cap code k n x s (es ++ xs) (some ⟨g, 0, none⟩) c' (w'.setCell ⟨p, 4, none⟩ (.slice (some ⟨g, 0, none⟩) (es.length + xs.length) c')) := by
  have hfar := hm.far (by omega) hd1 h2 hg
  obtain ⟨G, h3, h4, h5, h6, h7⟩ := hm
  have hpl := h3.lt
  have r1 := h4.gr hd1.2 (by omega)
  have hlt := h4.lt
  have r2 := r1.pushN hl hnd (fun x hx => by have := hF x hx; omega) (fun x hx hG => by have := hlt x hG; have := hF x hx; omega)
    (fun g hg' hx => by have := (h4.own.lt g hg').2; have := hF g hx; omega) h2 hown' hg (by
      rcases hat with e | e
      · exact .inl e.symm
      · exact .inr (by rw [← e]; rfl))
  have hpG : p ∉ G ++ F := fun hx => by
    rcases List.mem_append.1 hx with hx | hx
    · exact h5 hx
    · have := hF p hx; omega
  have hpo : ∀ g', (Value.slice (some (⟨g, 0, none⟩ : Addr)) (es.length + xs.length) c').ownBlock = some g' → g' ≠ p := fun g' e => by
    have e' : g = g' := by injection e
    subst e'
    rcases hat with e2 | e2
    · exact h6 g e2
    · have := h2.size; have := hd1.2.size; omega
  refine ⟨G ++ F, ?_, ?_, hpG, ?_, ?_⟩
  · have h := hfar.set 4 (.slice (some ⟨g, 0, none⟩) (es.length + xs.length) c')
    rw [List.length_append]
    simpa using h
  · rw [List.length_append]
    exact r2.grx (Gr.set p w' 4 _) hpG hpo
  · rw [List.length_append]
    exact hpo
  · have hB : Below w.heap.size w2 w' := ⟨hg.os, hg.tape, hg.output, hg.size, fun k hk => hg.block k (by have := h7.2.size; have := hd1.2.size; have := h2.size; omega) (fun e => by have := (h4.own.lt k e.symm).1; omega)⟩
    have hz : w.heap.size ≤ w1.heap.size := Nat.le_trans h7.2.size hd1.2.size
    exact drawn_over (h7.trans hd1) hb (((h2.mono hz).trans hB).setCell (by show w.heap.size ≤ p; exact hp) _)
theorem RowOf.liesx {w : World} {base p : Nat} {B : Option Addr} {c : Nat} {es : List Ent} {G : List Nat} (h : RowOf w base (.slice B es.length c) es G) (h1 : p ∉ G) (h2 : ∀ g, (Value.slice B es.length c).ownBlock = some g → g ≠ p) :
    ∃ F, es.length ≤ c ∧ Vs.lies w (es.map (·.1)) B F ∧ F.Nodup ∧ (∀ x ∈ F, base ≤ x) ∧ p ∉ F := by
  have hown := h.own
  rcases hown.2 with ⟨e0, h0⟩ | ⟨g, c', cur, e0, k1, k2, k3, k4⟩
  · have he : es = [] := List.eq_nil_of_length_eq_zero h0
    subst he
    exact ⟨[], Nat.zero_le _, .inl ⟨rfl, rfl⟩, List.nodup_nil, (fun x hx => by cases hx), (fun hx => by cases hx)⟩
  · injection e0 with e1 e2 e3
    subst e1 e3
    refine ⟨g :: G, by omega, .inr ⟨g, G, rfl, rfl, (hown.lt g rfl).2, soft_own hown, ?_⟩, List.nodup_cons.2 ⟨h.apart g rfl, h.nodup⟩, fun x hx => ?_, fun hx => ?_⟩
    · refine kidsLie_cells es 0 G (fun q hq => ?_) h.kids
      rw [Nat.zero_add]
      exact hown.cellAt q (by omega)
    · rcases List.mem_cons.1 hx with rfl | hx
      · exact k1
      · exact h.low x hx
    · rcases List.mem_cons.1 hx with e | hx
      · exact h2 g rfl e.symm
      · exact h1 hx
/-- A value wrapped: a list with it as the only kid. -/
theorem VAt.wrap {w wr w8 : World} {b p base : Nat} {A : Option Addr} {cap : Nat} {code : List UInt8} {k n x : Int} {s : ByteArray} {es : List Ent} {B : Option Addr} {c : Nat} {N : Nat} (hm : VAt w b p base A cap code k n x s es B c wr) (hb : b < w.heap.size) (hbase : w.heap.size ≤ base) (hbw : base ≤ wr.heap.size) (hp : w.heap.size ≤ p) (hg : Gr p wr w8) (hB8 : Blk w8 p 28 #[.int .i64 7, .int .i64 0, .int .i64 0, .string ⟨#[]⟩, .slice (some ⟨N, 0, none⟩) 1 1]) (hz8 : w8.heap.size = N) :
    VAt w b p base A cap code 7 0 0 ⟨#[]⟩ [(V.mk k n x s (es.map (·.1)), B, c)] (some ⟨N, 0, none⟩) 1 (w8.alloc (.cells (flat [(V.mk k n x s (es.map (·.1)), B, c)]).toArray 28)) := by
  obtain ⟨G, h3, h4, h5, h6, h7⟩ := hm
  have hpl := h3.lt
  have hsz := hg.size
  obtain ⟨F, k1, k2, k3, k4, k5⟩ := h4.liesx h5 h6
  have hl8 : Vs.lies w8 (es.map (·.1)) B F := Vs.lies_same k2 ⟨hg.size, fun x hx => hg.block x (lies_lt k2 x hx) (by intro e; injection e with e; exact k5 (e ▸ hx))⟩
  have hk1 : kidsLie w8 [(V.mk k n x s (es.map (·.1)), B, c)] F := kidsLie_one (by show (es.map (·.1)).length ≤ _; simpa using k1) hl8
  have hr := row_fresh (base := base) [(V.mk k n x s (es.map (·.1)), B, c)] hk1 k3 (by simp) k4 (by omega)
  rw [hz8] at hr
  subst hz8
  refine ⟨F, hB8.alloc _, hr, k5, fun g hg' => ?_, drawn_over h7 hb ((hg.toBelow hp h7.2.size).alloc (by have := h7.2.size; omega) _)⟩
  have e' : w8.heap.size = g := by injection hg'
  omega
/-- The value's cells all stored anew: a value without kids. -/
theorem VAt.clean {w wr w8 : World} {b p base : Nat} {A : Option Addr} {cap : Nat} {code : List UInt8} {k n x : Int} {s : ByteArray} {es : List Ent} {B : Option Addr} {c : Nat} {k' : Int} (hm : VAt w b p base A cap code k n x s es B c wr) (hb : b < w.heap.size) (hp : w.heap.size ≤ p) (hg : Gr p wr w8) (hB8 : Blk w8 p 28 #[.int .i64 k', .int .i64 0, .int .i64 0, .string ⟨#[]⟩, .slice none 0 0]) : VAt w b p base A cap code k' 0 0 ⟨#[]⟩ [] none 0 w8 := by
  obtain ⟨G, h3, h4, h5, h6, h7⟩ := hm
  exact ⟨[], hB8, RowOf.none ⟨rfl, .inl ⟨rfl, rfl⟩⟩, (fun hx => by cases hx), (fun g e => by cases e), drawn_over h7 hb (hg.toBelow hp h7.2.size)⟩
theorem agg_row (k n x : Int) (s : ByteArray) (es : List Ent) (B : Option Addr) (c : Nat) : (V.mk k n x s (es.map (·.1))).agg B c = .agg #[.int .i64 k, .int .i64 n, .int .i64 x, .string s, .slice B es.length c] := by
  simp [V.agg, V.k, V.n, V.e, V.s, V.kids]
theorem fits_k {k n x : Int} {s : ByteArray} {ks : List V} (h : (V.mk k n x s ks).fits) (k' n' : Int) (hk : inI k') (hn : inI n') : (V.mk k' n' x s ks).fits := by
  rw [V.fits_eq] at h ⊢
  exact ⟨h.1, h.2.1, h.2.2.1, hk, hn, h.2.2.2.2.2⟩
theorem fits_n {k n x : Int} {s : ByteArray} {ks : List V} (h : (V.mk k n x s ks).fits) : inI k ∧ inI n := by
  rw [V.fits_eq] at h
  exact ⟨h.2.2.2.1, h.2.2.2.2.1⟩
theorem wt_k (k n x k' n' x' : Int) (s : ByteArray) (ks : List V) : (V.mk k n x s ks).weight = (V.mk k' n' x' s ks).weight := by simp [V.weight]
theorem agg_leaf (k n x : Int) (s : ByteArray) : (V.mk k n x s []).agg none 0 = .agg #[.int .i64 k, .int .i64 n, .int .i64 x, .string s, .slice none 0 0] := rfl
def anyN : List Int := [1, 10, -1, 1000001]
theorem anyN_in : ∀ z ∈ anyN, inI z := by
  intro z hz
  simp only [anyN, List.mem_cons, List.not_mem_nil, or_false] at hz
  unfold inI
  omega

set_option maxHeartbeats 16000000 in
theorem dAnyOf (hmk : MkSaid 3) (b : Nat) (A : Option Addr) (cap : Nat) (code : List UInt8) (w : World) (hc : Cur w b A cap code) :
    Calls Tryd.prog 54 #[.pointer (some ⟨b, 0, none⟩)] w fun e w' => DV 1400 w w b A cap code e w' := by
  have HMK := Lib.hid hmk
  clear hmk
  have hbw : b < w.heap.size := hc.lt
  have hpb : w.heap.size ≠ b := by omega
  have B1 := Lib.hid (Blk.new w 28 #[.int .i64 0, .int .i64 0, .int .i64 0, .string ⟨#[]⟩, .slice none 0 0])
  have D1 := Lib.hid (Drawn.alloc hc (.cells #[.int .i64 0, .int .i64 0, .int .i64 0, .string ⟨#[]⟩, .slice none 0 0] 28))
  have Z1 : Hid ((w.alloc (.cells #[.int .i64 0, .int .i64 0, .int .i64 0, .string ⟨#[]⟩, .slice none 0 0] 28)).heap.size = w.heap.size + 1) := Lib.hid (by simp)
  clear hc
  go_enter Tryd.func54, Tryd.ntmps54
  go_wp2_with fail
  refine Calls.atW (fun w1 => Hid (Blk w1 w.heap.size 28 #[.int .i64 0, .int .i64 0, .int .i64 0, .string ⟨#[]⟩, .slice none 0 0]) ∧ Hid (Drawn w b A cap code w1) ∧ w1.heap.size = w.heap.size + 1) ⟨B1, D1, Z1.out⟩ ?_
  clear B1 D1 Z1
  rintro w1 ⟨B1, D1, Z1⟩
  refine (dOnce 3 b A cap code w1 (by omega) (by omega) D1.out.1).mono ?_
  rintro e w2 ⟨⟨r, rfl⟩, hd2⟩
  have D2 := Lib.hid (D1.out.trans hd2)
  have B2 := Lib.hid (res_cells B1.out hpb hd2.2)
  have hb2 : w.heap.size < w2.heap.size := B2.out.lt
  clear hd2 B1 D1 Z1
  go_wp2_with fail
  refine (HMK.out r b A cap code w2 D2.out.1).mono ?_
  rintro e w3 ⟨k, n, x, s, es, B, c, G, rfl, h1, h2, h4, h7⟩
  rw [agg_row]
  have H1 := Lib.hid h1
  have h22 : (V.mk k n x s (es.map (·.1))).weight ≤ 1008 := h2
  have H2 := Lib.hid h22
  have H4 := Lib.hid h4
  have D3 := Lib.hid (D2.out.trans h7)
  have B3 := Lib.hid (res_cells B2.out hpb h7.2)
  have hb3 : w2.heap.size ≤ w3.heap.size := h7.2.size
  have hne : ¬ w3.heap.size = w.heap.size := by omega
  have hne2 : ¬ w.heap.size = w3.heap.size := by omega
  clear h1 h2 h22 h4 h7 B2 D2
  go_wp2_with fail
  refine Calls.atW (fun w4 => Hid (Blk w4 w.heap.size 28 #[.int .i64 0, .int .i64 0, .int .i64 0, .string ⟨#[]⟩, .slice none 0 0]) ∧ Hid (VAt w b w3.heap.size w2.heap.size A cap code k n x s es B c w4)) ⟨Lib.hid (B3.out.alloc _), Lib.hid (VAt.start H4.out D3.out)⟩ ?_
  clear B3 H4 D3
  rintro w4 ⟨B4, VA4⟩
  refine (dBelow 24 b A cap code w4 (by omega) (by omega) VA4.out.drawn.1).mono ?_
  rintro e w5 ⟨⟨q, hq, rfl⟩, hd5⟩
  have VA5 := Lib.hid (VA4.out.gr (by omega) (by omega) hd5)
  have B5 := Lib.hid (res_cells B4.out hpb hd5.2)
  clear hd5 VA4 B4
  rcases (show q = 0 ∨ q = 1 ∨ q = 2 ∨ q = 3 ∨ q = 4 ∨ q = 5 ∨ 5 < q by omega) with rfl | rfl | rfl | rfl | rfl | rfl | hq5
  · go_wp2_with fail
    refine (dBelow 12 b A cap code w5 (by omega) (by omega) VA5.out.drawn.1).mono ?_
    rintro e w6 ⟨⟨z, hz, rfl⟩, hd6⟩
    have VA6 := Lib.hid (VA5.out.gr (by omega) (by omega) hd6)
    have B6 := Lib.hid (res_cells B5.out hpb hd6.2)
    clear hd6 VA5 B5
    have HC := Lib.hid VA6.out.blk
    have HCB := HC.out
    obtain ⟨r0, r1, r2, r3, r4⟩ := HCB.five
    have g0 := HCB.frozen 0
    have g1 := HCB.frozen 1
    clear HCB
    have B9 := B6.out
    obtain ⟨p0, p1, p2, p3, p4⟩ := B9.five
    have f0 := B9.frozen 0
    have f1 := B9.frozen 1
    have f2 := B9.frozen 2
    have f3 := B9.frozen 3
    have f4 := B9.frozen 4
    clear B9
    go_wp2_with fail
    refine bodyPost_ret (v := .agg #[.int .i64 ((z : Int) - 1), .int .i64 n, .int .i64 x, .string s, .slice B es.length c]) (by simp [results, Tryd.results54, go_sem, p0, p1, p2, p3, p4, r0, r1, r2, r3, r4, hne, hne2]) rfl (VAt.res (r := w.heap.size) (VA6.out.set (k' := ((z : Int) - 1)) (n' := n) (x' := x) (s' := s) hbw (by omega) 0 (.int .i64 ((z : Int) - 1)) (by simp)) (by rw [agg_row]) (fits_k H1.out _ _ (by unfold inI; omega) (fits_n H1.out).2) (by rw [wt_k _ _ _ k n x]; have := H2.out; omega) hb2 (Nat.le_refl _) hbw ?hd)
    case hd => repeat (first | exact Gr.refl _ _ | (refine Gr.trans ?_ (Gr.set _ _ _ _)))
  · go_wp2_with fail
    refine (dPickIntNew anyN b A cap code _ (by decide) (by decide) VA5.out.drawn.1).mono ?_
    rintro e w6 ⟨⟨z, hz, rfl⟩, hd6⟩
    have hz2 := anyN_in z hz
    have VA6 := Lib.hid (VA5.out.gr (by omega) (by omega) hd6)
    have B6 := Lib.hid (res_cells B5.out hpb hd6.2)
    clear hd6 VA5 B5 hz
    have HC := Lib.hid VA6.out.blk
    have HCB := HC.out
    obtain ⟨r0, r1, r2, r3, r4⟩ := HCB.five
    have g0 := HCB.frozen 0
    have g1 := HCB.frozen 1
    clear HCB
    have B9 := B6.out
    obtain ⟨p0, p1, p2, p3, p4⟩ := B9.five
    have f0 := B9.frozen 0
    have f1 := B9.frozen 1
    have f2 := B9.frozen 2
    have f3 := B9.frozen 3
    have f4 := B9.frozen 4
    clear B9
    go_wp2_with fail
    refine bodyPost_ret (v := .agg #[.int .i64 k, .int .i64 z, .int .i64 x, .string s, .slice B es.length c]) (by simp [results, Tryd.results54, go_sem, p0, p1, p2, p3, p4, r0, r1, r2, r3, r4, hne, hne2]) rfl (VAt.res (r := w.heap.size) (VA6.out.set (k' := k) (n' := z) (x' := x) (s' := s) hbw (by omega) 1 (.int .i64 z) (by simp)) (by rw [agg_row]) (fits_k H1.out _ _ (fits_n H1.out).1 hz2) (by rw [wt_k _ _ _ k n x]; have := H2.out; omega) hb2 (Nat.le_refl _) hbw ?hd)
    case hd => repeat (first | exact Gr.refl _ _ | (refine Gr.trans ?_ (Gr.set _ _ _ _)))
  · have hnodes : es.length ≤ 1008 := by
      have hw2 := H2.out
      rw [V.weight_eq] at hw2
      have hlen := Vs.len_le (es.map (·.1))
      rw [List.length_map] at hlen
      have : Vs.weight (V.mk k n x s (es.map (·.1))).kids = Vs.weight (es.map (·.1)) := rfl
      omega
    have HMD := Lib.hid (VA5.out.drawn.1.drew)
    have HC := Lib.hid VA5.out.blk
    have HCB := HC.out
    obtain ⟨r0, r1, r2, r3, r4⟩ := HCB.five
    have g4 := HCB.frozen 4
    clear HCB
    obtain ⟨i0, hi, hz0, hz1, hz2⟩ := info_parts infoV
    go_wp2_with fail
    go_region_law (first
      | (refine step_append_lies _ (by rfl) (.tmp 29) (.tmp 32) 26 (by rfl) w2.heap.size 28 i0 _ 5 64 Tryd.underlying26 hi hz0 hz1 hz2 (by rfl) (by omega) (.slice B es.length c) es.length (flat es) (by rfl) (HO.out.alloc _) ⟨w6.heap.size, 0, none⟩ 1 1 (Ent.cells (v', B', c')) (by rfl) (by rfl) HN.out (ent_ones' _) (by omega) (by unfold maxLen; omega) (by omega) (by simp; omega) _ rfl ?_
         intro g c2 w8 hown' hgr hat hlt'
         have B8 := Lib.hid (VA5.out.far (by omega) HD6.out ((Below.refl _ _).alloc (Nat.le_refl _) _) hgr)
         have s4 := (B8.out.five).2.2.2.2
         have e4 := B8.out.frozen 4)
      | (go_simp
         go_at_call 81
         refine (dLeaf false b A cap code _ HMD.out).mono ?_
         intro e w6 hdv; obtain ⟨v', B', c', F', rfl, h1, h2, h3, h4, h5, h6, h7⟩ := hdv.opened
         have HD6 := Lib.hid (Drawn.undrew h7)
         have HO := Lib.hid (VA5.out.own (by omega) HD6.out.2)
         have HN := Lib.hid (cells_new w6 (Ent.cells (v', B', c')).toArray 28)
         have L1 := Lib.hid h1
         have L2 := Lib.hid h2
         have L4 := Lib.hid h4
         have L5 := Lib.hid h5
         have L6 := Lib.hid h6
         have B6 := Lib.hid (VA5.out.gr (by omega) (by omega) HD6.out).blk
         have s4 := (B6.out.five).2.2.2.2
         have hwz : w3.heap.size < w6.heap.size := B6.out.lt
         clear h1 h2 h4 h5 h6 h7
         unfold V.agg))
    all_goals
      have VAW := Lib.hid (VA5.out.app (xs := [(v', B', c')]) hbw (by omega) (by have := HC.out.lt; omega) (by omega) (kidsLie_one h3 L4.out) L5.out (fun x hx => L6.out x hx) HD6.out ((Below.refl _ _).alloc (Nat.le_refl _) _) (by simpa [flat] using hown') hgr hat)
      have BW := Lib.hid (VA5.out.other HD6.out ((Below.refl _ _).alloc (Nat.le_refl _) _) hgr B5.out hpb (by omega) hb2 4 (.slice (some ⟨g, 0, none⟩) (es.length + 1) c2))
      clear HO HN hown' hgr hat
      obtain ⟨W, hW⟩ : ∃ W, W = w8.setCell ⟨w3.heap.size, 4, none⟩ (.slice (some ⟨g, 0, none⟩) (es.length + 1) c2) := ⟨_, rfl⟩
      simp only [List.length_cons, List.length_nil, Nat.zero_add] at VAW
      rw [← hW] at VAW BW ⊢
      clear hW
      have HC := Lib.hid VAW.out.blk
      have HCB := HC.out
      obtain ⟨r0, r1, r2, r3, r4⟩ := HCB.five
      clear HCB
      have B9 := BW.out
      obtain ⟨p0, p1, p2, p3, p4⟩ := B9.five
      have f0 := B9.frozen 0
      have f1 := B9.frozen 1
      have f2 := B9.frozen 2
      have f3 := B9.frozen 3
      have f4 := B9.frozen 4
      clear B9
      go_wp2_with fail
      refine bodyPost_ret (v := .agg #[.int .i64 k, .int .i64 n, .int .i64 x, .string s, .slice (some ⟨g, 0, none⟩) (es ++ [(v', B', c')]).length c2]) (by simp [results, Tryd.results54, go_sem, p0, p1, p2, p3, p4, r0, r1, r2, r3, r4, hne, hne2]) rfl (VAt.res (r := w.heap.size) VAW.out (by rw [agg_row]) ?hf ?hw hb2 (Nat.le_refl _) hbw ?hd)
      case hd => repeat (first | exact Gr.refl _ _ | (refine Gr.trans ?_ (Gr.set _ _ _ _)))
      case hf => rw [V.fits_eq]; exact ⟨(V.fits_eq _ |>.1 H1.out).1, by show (List.map (·.1) (es ++ [(v', B', c')])).length ≤ _; simp; omega, by show Vs.fits (List.map (·.1) (es ++ [(v', B', c')])); rw [List.map_append]; exact Vs.fits_app _ _ (V.fits_eq _ |>.1 H1.out).2.2.1 (by simp only [List.map_cons, List.map_nil, Vs.fits]; exact ⟨L1.out, trivial⟩), (V.fits_eq _ |>.1 H1.out).2.2.2⟩
      case hw => have e1 := H2.out; have e2 := L2.out; rw [V.weight_eq] at e1 ⊢; show s.size + Vs.weight (List.map (·.1) (es ++ [(v', B', c')])) ≤ _; rw [List.map_append, Vs.weight_app]; simp only [List.map_cons, List.map_nil, Vs.weight]; have e3 : s.size + Vs.weight (es.map (·.1)) ≤ 1008 := e1; omega
  · go_wp2_with fail
    refine (drawStr ⟨#[97]⟩ w5).mono ?_
    rintro e w6 ⟨rfl, hb6⟩
    rw [agg_leaf]
    go_wp2_with fail
    refine (drawInt 1 w6).mono ?_
    rintro e w7 ⟨rfl, hb7⟩
    rw [agg_leaf]
    go_wp2_with fail
    refine (drawStr ⟨#[97]⟩ w7).mono ?_
    rintro e w8 ⟨rfl, hb8⟩
    rw [agg_leaf]
    go_wp2_with fail
    refine (drawInt 2 w8).mono ?_
    rintro e w9 ⟨rfl, hb9⟩
    rw [agg_leaf]
    have D6 := Lib.hid (VA5.out.drawn.trans (Drawn.of VA5.out.drawn.1 hb6))
    have D7 := Lib.hid (D6.out.trans (Drawn.of D6.out.1 hb7))
    have D8 := Lib.hid (D7.out.trans (Drawn.of D7.out.1 hb8))
    have D9 := Lib.hid (D8.out.trans (Drawn.of D8.out.1 hb9))
    have B9 := Lib.hid ((((B5.out.below hb6 B5.out.lt).below hb7 (B5.out.below hb6 B5.out.lt).lt).below hb8 ((B5.out.below hb6 B5.out.lt).below hb7 (B5.out.below hb6 B5.out.lt).lt).lt).below hb9 (((B5.out.below hb6 B5.out.lt).below hb7 (B5.out.below hb6 B5.out.lt).lt).below hb8 ((B5.out.below hb6 B5.out.lt).below hb7 (B5.out.below hb6 B5.out.lt).lt).lt).lt)
    have HZ9 : w.heap.size < w9.heap.size := B9.out.lt
    have HKL : Hid (kidsLie w9 [(V.mk 5 0 0 ⟨#[97]⟩ [], none, 0), (V.mk 3 1 0 ⟨#[]⟩ [], none, 0), (V.mk 5 0 0 ⟨#[97]⟩ [], none, 0), (V.mk 3 2 0 ⟨#[]⟩ [], none, 0)] []) := Lib.hid (by simp [kidsLie, V.lies, V.kids])
    clear hb6 hb7 hb8 hb9 D6 D7 D8 VA5 B5
    have B10 := B9
    clear B9
    have B9 := B10.out
    obtain ⟨p0, p1, p2, p3, p4⟩ := B9.five
    have f0 := B9.frozen 0
    have f1 := B9.frozen 1
    have f2 := B9.frozen 2
    have f3 := B9.frozen 3
    have f4 := B9.frozen 4
    clear B9
    go_wp2_with fail
    refine bodyPost_ret (v := .agg #[.int .i64 8, .int .i64 0, .int .i64 0, .string ⟨#[]⟩, .slice (some ⟨w9.heap.size, 0, none⟩) 4 4]) (by simp [results, Tryd.results54, go_sem, p0, p1, p2, p3, p4, HZ9]) rfl (DV.row (k := 8) (n := 0) (x := 0) (s := ⟨#[]⟩) (es := [(V.mk 5 0 0 ⟨#[97]⟩ [], none, 0), (V.mk 3 1 0 ⟨#[]⟩ [], none, 0), (V.mk 5 0 0 ⟨#[97]⟩ [], none, 0), (V.mk 3 2 0 ⟨#[]⟩ [], none, 0)]) (F := []) (p := w.heap.size) rfl ?hf ?hw HKL.out List.nodup_nil (fun x hx => by cases hx) (Nat.le_refl _) HZ9 D9.out hbw ?hd (by simp) rfl (by simp))
    case hf => simp only [V.fits_eq, V.kids, V.k, V.n, V.e, V.s, List.map_cons, List.map_nil, Vs.fits, inI]; decide
    case hw => simp only [V.weight_eq, V.kids, V.s, List.map_cons, List.map_nil, Vs.weight]; decide
    case hd => repeat (first | exact Gr.refl _ _ | (refine Gr.trans ?_ (Gr.set _ _ _ _)))
  · go_wp2_with fail
    refine (dBelow 3 b A cap code w5 (by omega) (by omega) VA5.out.drawn.1).mono ?_
    rintro e w6 ⟨⟨z, hz, rfl⟩, hd6⟩
    have VA6 := Lib.hid (VA5.out.gr (by omega) (by omega) hd6)
    have B6 := Lib.hid (res_cells B5.out hpb hd6.2)
    clear hd6 VA5 B5
    go_wp2_with fail
    go_loopw [5] (fun i wr => ∃ (j : Nat) (k n x : Int) (s : ByteArray) (es : List Ent) (B : Option Addr) (c : Nat), i = .int .i64 (j : Int) ∧ j ≤ 11 + z ∧ Hid (VAt w b w3.heap.size w2.heap.size A cap code k n x s es B c wr) ∧ Hid ((V.mk k n x s (es.map (·.1))).fits) ∧ Hid ((V.mk k n x s (es.map (·.1))).weight ≤ 1008 + j) ∧ Hid (Blk wr w.heap.size 28 #[.int .i64 0, .int .i64 0, .int .i64 0, .string ⟨#[]⟩, .slice none 0 0])) (fun i _ => 11 + z - (intOf i).toNat)
    case atStart => exact ⟨0, k, n, x, s, es, B, c, rfl, Nat.zero_le _, VA6, H1, H2, B6⟩
    case round =>
      obtain ⟨j, k, n, x, s, es, B, c, rfl, hj, HV, HF, HW, HB⟩ := hrel
      by_cases hlt : j < 11 + z
      · have hlt2 : (j : Int) < 11 + (z : Int) := by omega
        have HC := Lib.hid HV.out.blk
        have B9 := HC.out
        obtain ⟨r0, r1, r2, r3, r4⟩ := B9.five
        have g0 := B9.frozen 0
        have g1 := B9.frozen 1
        have g2 := B9.frozen 2
        have g3 := B9.frozen 3
        have g4 := B9.frozen 4
        clear B9
        have HZ3 : w3.heap.size < wr.heap.size := HC.out.lt
        go_wp2_with fail
        go_roundw
        case rel =>
          refine ⟨j + 1, 7, 0, 0, ⟨#[]⟩, [(V.mk k n x s (es.map (·.1)), B, c)], some ⟨wr.heap.size, 0, none⟩, 1, by go_num, by omega, Lib.hid ?va, Lib.hid ?hf, Lib.hid ?hw, Lib.hid ?hb⟩
          case va =>
            obtain ⟨W8, hW8⟩ : ∃ W8, W8 = (((((wr.setCell ⟨w3.heap.size, 0, none⟩ (.int .i64 7)).setCell ⟨w3.heap.size, 1, none⟩ (.int .i64 0)).setCell ⟨w3.heap.size, 2, none⟩ (.int .i64 0)).setCell ⟨w3.heap.size, 3, none⟩ (.string ⟨#[]⟩)).setCell ⟨w3.heap.size, 4, none⟩ (.slice (some ⟨wr.heap.size, 0, none⟩) 1 1)) := ⟨_, rfl⟩
            have hg8 : Gr w3.heap.size wr W8 := by
              rw [hW8]
              repeat (first | exact Gr.refl _ _ | (refine Gr.trans ?_ (Gr.set _ _ _ _)))
            have hB8 : Blk W8 w3.heap.size 28 #[.int .i64 7, .int .i64 0, .int .i64 0, .string ⟨#[]⟩, .slice (some ⟨wr.heap.size, 0, none⟩) 1 1] := by
              rw [hW8]
              have h := ((((HC.out.set 0 (.int .i64 7)).set 1 (.int .i64 0)).set 2 (.int .i64 0)).set 3 (.string ⟨#[]⟩)).set 4 (.slice (some ⟨wr.heap.size, 0, none⟩) 1 1)
              simpa using h
            have hz8 : W8.heap.size = wr.heap.size := by rw [hW8]; simp
            have hfl : (flat [(V.mk k n x s (es.map (·.1)), B, c)]).toArray = #[.int .i64 k, .int .i64 n, .int .i64 x, .string s, .slice B es.length c] := by simp [flat, Ent.cells, V.k, V.n, V.e, V.s, V.kids]
            have h := HV.out.wrap hbw (by omega) (by omega) (by omega) hg8 hB8 hz8
            rw [hfl] at h
            rw [← hW8]
            exact h
          case hf => exact (V.fits_eq _).2 ⟨by show (0 : Nat) ≤ _; omega, by show (1 : Nat) ≤ _; omega, by show Vs.fits [_]; simp only [Vs.fits]; exact ⟨HF.out, trivial⟩, by show inI 7; unfold inI; omega, by show inI 0; unfold inI; omega, by show inI 0; unfold inI; omega⟩
          case hw => rw [V.weight_eq]; show 0 + Vs.weight [_] ≤ _; simp only [Vs.weight]; have := HW.out; omega
          case hb =>
            refine Blk.alloc (blk_gr HB.out (b := w3.heap.size) hne2 ?_) _
            repeat (first | exact Gr.refl _ _ | (refine Gr.trans ?_ (Gr.set _ _ _ _)))
        case measure => simp [intOf]; omega
      · have hjz : j ≤ 24 := by omega
        have hge : 11 + (z : Int) ≤ (j : Int) := by omega
        have hge2 : ¬ (j : Int) < 11 + (z : Int) := by omega
        clear hlt hj
        have HC := Lib.hid HV.out.blk
        have HCB := HC.out
        obtain ⟨r0, r1, r2, r3, r4⟩ := HCB.five
        clear HCB
        have B9 := HB.out
        obtain ⟨p0, p1, p2, p3, p4⟩ := B9.five
        have f0 := B9.frozen 0
        have f1 := B9.frozen 1
        have f2 := B9.frozen 2
        have f3 := B9.frozen 3
        have f4 := B9.frozen 4
        clear B9
        go_wp2_with fail
        refine bodyPost_ret (v := .agg #[.int .i64 k, .int .i64 n, .int .i64 x, .string s, .slice B es.length c]) (by simp [results, Tryd.results54, go_sem, p0, p1, p2, p3, p4, r0, r1, r2, r3, r4, hne, hne2]) rfl (VAt.res (r := w.heap.size) HV.out (by rw [agg_row]) HF.out (by have := HW.out; omega) hb2 (Nat.le_refl _) hbw ?hd)
        case hd => repeat (first | exact Gr.refl _ _ | (refine Gr.trans ?_ (Gr.set _ _ _ _)))
  · have HC6 := Lib.hid VA5.out.blk
    go_wp2_with fail
    refine (dBelow 3 b A cap code w5 (by omega) (by omega) VA5.out.drawn.1).mono ?_
    rintro e w6 ⟨⟨z, hz, rfl⟩, hd6⟩
    have VA6 := Lib.hid (VA5.out.gr (by omega) (by omega) hd6)
    have B6 := Lib.hid (res_cells B5.out hpb hd6.2)
    clear hd6 VA5 B5 HC6
    have HC := Lib.hid VA6.out.blk
    have B9 := HC.out
    obtain ⟨r0, r1, r2, r3, r4⟩ := B9.five
    have g0 := B9.frozen 0
    have g1 := B9.frozen 1
    have g2 := B9.frozen 2
    have g3 := B9.frozen 3
    have g4 := B9.frozen 4
    clear B9
    have HZ3 : w3.heap.size < w6.heap.size := HC.out.lt
    go_wp2_with fail
    clear r0 r1 r2 r3 r4 g0 g1 g2 g3 g4
    go_loopw [7] (fun i wr => ∃ (j : Nat) (es : List Ent) (B : Option Addr) (c : Nat), i = .int .i64 (j : Int) ∧ j ≤ 298 + z ∧ Hid (es.length = j) ∧ Hid (VAt w b w3.heap.size w2.heap.size A cap code 7 0 0 ⟨#[]⟩ es B c wr) ∧ Hid (Vs.fits (es.map (·.1)) ∧ Vs.weight (es.map (·.1)) ≤ j) ∧ Hid (Blk wr w.heap.size 28 #[.int .i64 0, .int .i64 0, .int .i64 0, .string ⟨#[]⟩, .slice none 0 0])) (fun i _ => 298 + z - (intOf i).toNat)
    case atStart =>
      refine ⟨0, [], none, 0, rfl, Nat.zero_le _, Lib.hid rfl, Lib.hid (VA6.out.clean hbw (by omega) ?gr ?blk), Lib.hid ⟨by simp [Vs.fits], by simp [Vs.weight]⟩, Lib.hid (blk_gr B6.out (b := w3.heap.size) hne2 ?gr2)⟩
      case gr => repeat (first | exact Gr.refl _ _ | (refine Gr.trans ?_ (Gr.set _ _ _ _)))
      case gr2 => repeat (first | exact Gr.refl _ _ | (refine Gr.trans ?_ (Gr.set _ _ _ _)))
      case blk =>
        have h := ((((HC.out.set 0 (.int .i64 7)).set 1 (.int .i64 0)).set 2 (.int .i64 0)).set 3 (.string ⟨#[]⟩)).set 4 (.slice none 0 0)
        simpa using h
    case round =>
      obtain ⟨j, es, B, c, rfl, hj, HEL, HV, HW, HB⟩ := hrel
      by_cases hlt : j < 298 + z
      · have hlt2 : (j : Int) < 298 + (z : Int) := by omega
        have HC := Lib.hid HV.out.blk
        have HCB := HC.out
        obtain ⟨r0, r1, r2, r3, r4⟩ := HCB.five
        have g4 := HCB.frozen 4
        clear HCB
        have HZ3 : w3.heap.size < wr.heap.size := HC.out.lt
        have hsm : es.length ≤ 1000 := by have := HEL.out; omega
        have HO := Lib.hid (HV.out.own (by omega) (Gr.refl b wr))
        have HN := Lib.hid (cells_new wr (Ent.cells (V.mk 0 0 0 ⟨#[]⟩ [], none, 0)).toArray 28)
        obtain ⟨i0, hi, hz0, hz1, hz2⟩ := info_parts infoV
        go_wp2_with (at_builtin; refine wpList_append_lies _ (by rfl) (.tmp 68) (.tmp 70) 26 (by rfl) w2.heap.size 28 i0 _ 5 64 Tryd.underlying26 hi hz0 hz1 hz2 (by rfl) (by omega) (.slice B es.length c) es.length (flat es) (by rfl) (HO.out.alloc _) ⟨wr.heap.size, 0, none⟩ 1 1 (Ent.cells (V.mk 0 0 0 ⟨#[]⟩ [], none, 0)) (by rfl) (by rfl) HN.out (ent_ones' _) (by omega) (by unfold maxLen; omega) (by omega) (by simp; omega) _ rfl ?_; intro g c2 w8 hown' hgr hat hlt'; have B8 := Lib.hid (HV.out.far (by omega) (Drawn.refl HV.out.drawn.1) ((Below.refl _ _).alloc (Nat.le_refl _) _) hgr); have s4 := (B8.out.five).2.2.2.2; have e4 := B8.out.frozen 4)
        go_roundw
        case rel =>
          have VAW := HV.out.app (xs := [(V.mk 0 0 0 ⟨#[]⟩ [], none, 0)]) (F := []) hbw (by omega) (by omega) (by omega) (kidsLie_one (Nat.le_refl 0) (.inl ⟨rfl, rfl⟩)) List.nodup_nil (fun x hx => by cases hx) (Drawn.refl HV.out.drawn.1) ((Below.refl _ _).alloc (Nat.le_refl _) _) (by simpa [flat] using hown') hgr hat
          refine ⟨j + 1, es ++ [(V.mk 0 0 0 ⟨#[]⟩ [], none, 0)], some ⟨g, 0, none⟩, c2, by go_num, by omega, Lib.hid (by rw [List.length_append, HEL.out]; rfl), Lib.hid VAW, Lib.hid ⟨?_, ?_⟩, Lib.hid (HV.out.other (Drawn.refl HV.out.drawn.1) ((Below.refl _ _).alloc (Nat.le_refl _) _) hgr HB.out hpb hne2 hb2 4 _)⟩
          · rw [List.map_append]; exact Vs.fits_app _ _ HW.out.1 (by simp only [List.map_cons, List.map_nil, Vs.fits, V.fits_eq, V.kids, V.k, V.n, V.e, V.s, inI]; decide)
          · rw [List.map_append, Vs.weight_app]; simp only [List.map_cons, List.map_nil, Vs.weight, V.weight]; have := HW.out.2; show _ + (0 + 0 + 1 + 0) ≤ _; omega
        case measure => simp [intOf]; omega
      · have hjz : j ≤ 300 := by omega
        have hel3 : es.length ≤ 300 := by have := HEL.out; omega
        have hge : 298 + (z : Int) ≤ (j : Int) := by omega
        have hge2 : ¬ (j : Int) < 298 + (z : Int) := by omega
        clear hlt hj
        have HC := Lib.hid HV.out.blk
        have HCB := HC.out
        obtain ⟨r0, r1, r2, r3, r4⟩ := HCB.five
        clear HCB
        have B9 := HB.out
        obtain ⟨p0, p1, p2, p3, p4⟩ := B9.five
        have f0 := B9.frozen 0
        have f1 := B9.frozen 1
        have f2 := B9.frozen 2
        have f3 := B9.frozen 3
        have f4 := B9.frozen 4
        clear B9
        go_wp2_with fail
        refine bodyPost_ret (v := .agg #[.int .i64 7, .int .i64 0, .int .i64 0, .string ⟨#[]⟩, .slice B es.length c]) (by simp [results, Tryd.results54, go_sem, p0, p1, p2, p3, p4, r0, r1, r2, r3, r4, hne, hne2]) rfl (VAt.res (r := w.heap.size) HV.out (by rw [agg_row]) ?hf ?hw hb2 (Nat.le_refl _) hbw ?hd)
        case hd => repeat (first | exact Gr.refl _ _ | (refine Gr.trans ?_ (Gr.set _ _ _ _)))
        case hf => exact (V.fits_eq _).2 ⟨by show (0 : Nat) ≤ _; omega, by show (es.map (·.1)).length ≤ _; simp; omega, HW.out.1, by show inI 7; unfold inI; omega, by show inI 0; unfold inI; omega, by show inI 0; unfold inI; omega⟩
        case hw => rw [V.weight_eq]; show 0 + Vs.weight (es.map (·.1)) ≤ _; have := HW.out.2; omega
  · have q0 : ((q : Int) == 0) = false := by rw [beq_eq_false_iff_ne]; omega
    have q1 : ((q : Int) == 1) = false := by rw [beq_eq_false_iff_ne]; omega
    have q2 : ((q : Int) == 2) = false := by rw [beq_eq_false_iff_ne]; omega
    have q3 : ((q : Int) == 3) = false := by rw [beq_eq_false_iff_ne]; omega
    have q4 : ((q : Int) == 4) = false := by rw [beq_eq_false_iff_ne]; omega
    have q5 : ((q : Int) == 5) = false := by rw [beq_eq_false_iff_ne]; omega
    have n0 : ¬ (q : Int) = 0 := by omega
    have n1 : ¬ (q : Int) = 1 := by omega
    have n2 : ¬ (q : Int) = 2 := by omega
    have n3 : ¬ (q : Int) = 3 := by omega
    have n4 : ¬ (q : Int) = 4 := by omega
    have n5 : ¬ (q : Int) = 5 := by omega
    have HC := Lib.hid VA5.out.blk
    have HCB := HC.out
    obtain ⟨r0, r1, r2, r3, r4⟩ := HCB.five
    clear HCB
    have B9 := B5.out
    obtain ⟨p0, p1, p2, p3, p4⟩ := B9.five
    have f0 := B9.frozen 0
    have f1 := B9.frozen 1
    have f2 := B9.frozen 2
    have f3 := B9.frozen 3
    have f4 := B9.frozen 4
    clear B9
    go_wp2_with fail
    refine bodyPost_ret (v := .agg #[.int .i64 k, .int .i64 n, .int .i64 x, .string s, .slice B es.length c]) (by simp [results, Tryd.results54, go_sem, p0, p1, p2, p3, p4, r0, r1, r2, r3, r4, hne, hne2]) rfl (VAt.res (r := w.heap.size) VA5.out (by rw [agg_row]) H1.out (by have := H2.out; omega) hb2 (Nat.le_refl _) hbw ?hd)
    case hd => repeat (first | exact Gr.refl _ _ | (refine Gr.trans ?_ (Gr.set _ _ _ _)))
end Go.Proofs.YtcjamnfboifjeaaDoor

/-
  The reference's copy of a value, l02Copy: the same tree in new memory, each row in a block of its own.
-/
namespace Go.Proofs.YtcjamnfboifjeaaDoor
open Go.RowKit
set_option linter.unusedVariables false
set_option linter.unusedSimpArgs false

/-- What a copy hands back. -/
def Copied (v : V) (w : World) (e : Ending) (w' : World) : Prop := ∃ A' c' F, e = .returned (v.agg A' c') ∧ v.kids.length ≤ c' ∧ Vs.lies w' v.kids A' F ∧ F.Nodup ∧ (∀ c ∈ F, w.heap.size ≤ c) ∧ Below w.heap.size w w'
def CopySaid (v : V) : Prop := ∀ (A : Option Addr) (cap : Nat) (w : World), v.nodes ≤ 1048577 → Vs.at_ w 0 w.heap.size v.kids A →
    Calls Tryd.prog 45 #[v.agg A cap] w (Copied v w)
def CopyAllSaid (l : List V) : Prop := ∀ (A : Option Addr) (cap : Nat) (w : World), l.length ≤ 1048576 → Vs.nodes l ≤ 1048576 → Vs.at_ w 0 w.heap.size l A →
    Calls Tryd.prog 73 #[.slice A l.length cap] w fun e w' => ∃ A' c' F, e = .returned (.slice A' l.length c') ∧ l.length ≤ c' ∧ Vs.lies w' l A' F ∧ F.Nodup ∧ (∀ c ∈ F, w.heap.size ≤ c) ∧ Below w.heap.size w w'

/-- What the copying loops have laid. -/
def CpRel (l : List V) (w : World) (o i : Value) (wr : World) : Prop :=
  ∃ (j : Nat) (es : List Ent) (G : List Nat), j ≤ l.length ∧ i = .int .i64 j ∧ es.map (·.1) = l.take j ∧ RowOf wr w.heap.size o es G ∧ Below w.heap.size w wr
theorem cp_next {l : List V} {w wr w1 w' : World} {j : Nat} {es : List Ent} {G F : List Nat} {o v' : Value} (hj : j < l.length) (he : es.map (·.1) = l.take j) (hr : RowOf wr w.heap.size o es G) (hb : Below w.heap.size w wr) {A : Option Addr} {c : Nat}
    (hc : (l[j]).kids.length ≤ c) (hl : Vs.lies w1 (l[j]).kids A F) (hnd : F.Nodup) (hF : ∀ x ∈ F, wr.heap.size ≤ x) (hb1 : Below wr.heap.size wr w1) {w2 : World} (h2 : Below w1.heap.size w1 w2)
    (hown' : w'.ownsRow w.heap.size 28 5 v' (es.length + 1) (flat es ++ Ent.cells (l[j], A, c))) (hg : w2.grownBy w' o.ownBlock) (hv : v'.ownBlock = o.ownBlock ∨ v'.ownBlock = some w2.heap.size) :
    CpRel l w v' (.int .i64 ((j : Int) + 1)) w' := by
  have hr1 := hr.below (Nat.le_refl _) hb1
  have hlt := hr.lt
  have h := hr1.push hc hl hnd (fun x hx => Nat.le_trans hb.size (hF x hx)) (fun x hx hG => by have := hlt x hG; have := hF x hx; omega)
    (fun g hg' hx => by have := (hr.own.lt g hg').2; have := hF g hx; omega) h2 hown' hg hv
  refine ⟨j + 1, _, _, by omega, by go_num, ?_, h, ?_⟩
  · rw [List.map_append, he, List.take_succ_eq_append_getElem hj]; rfl
  · have hb3 := (hb.trans (hb1.mono hb.size)).trans (h2.mono (Nat.le_trans hb.size hb1.size))
    exact hb3.grown hg hb3.size (fun k hk => (hr.own.lt k hk).1)
theorem ent_ones (x : Ent) : ∀ u ∈ x.cells, u.oneCell' = true := by
  intro u hu
  simp [Ent.cells] at hu
  rcases hu with rfl | rfl | rfl | rfl | rfl <;> rfl

set_option maxHeartbeats 1000000 in
theorem copyAll_step (l : List V) (hk : ∀ i (h : i < l.length), CopySaid l[i]) : CopyAllSaid l := by
  intro A cap w hl hn hat
  have HK := fun (i : Nat) (h : i < l.length) (A' : Option Addr) (c : Nat) (w' : World) (hat' : Vs.at_ w' 0 w'.heap.size (l[i]).kids A') => hk i h A' c w' (by have := Vs.nodes_get i h; omega) hat'
  have HC := Lib.hid HK
  have HA := Lib.hid hat
  clear HK hk hat
  go_enter Tryd.func73, Tryd.ntmps73
  go_wp2_with fail
  go_loopw [3, 4] (fun o i wr => CpRel l w o i wr) (fun _ i _ => l.length - (intOf i).toNat)
  case atStart => exact ⟨0, [], [], Nat.zero_le _, rfl, rfl, RowOf.none (own_empty w _ _), (Below.refl _ _).alloc (Nat.le_refl _) _⟩
  case round =>
    obtain ⟨j, es, G, hj, rfl, he, hr, hb⟩ := hrel
    have hel : es.length = j := by have := congrArg List.length he; simpa [Nat.min_eq_left hj] using this
    have HE := Lib.hid he
    have HR := Lib.hid hr
    have HEL := Lib.hid hel
    clear he hr hel
    by_cases hlt : j < l.length
    · obtain ⟨b, off, A', cap', rfl, g1, g2, g3, ⟨c0, c1, c2, c3, c4⟩, g5⟩ := Vs.at_get j hlt (Vs.at_below HA.out hb (Nat.le_refl _))
      go_wp2_with fail
      refine (HC.out j hlt A' cap' _ (Vs.at_more (Nat.le_refl _) hb.size _ _ g5)).mono ?_
      rintro e w1 ⟨A2, c2', F, rfl, hc2, hl2, hnd2, hF2, hb1⟩
      have hr1 := (HR.out.below (Nat.le_refl _) hb1).own
      have hbw := hb.trans (hb1.mono hb.size)
      have hcn := cells_new w1 (Ent.cells (l[j], A2, c2')).toArray 28
      have HO := Lib.hid hr1
      have HN := Lib.hid hcn
      have HL2 := Lib.hid hl2
      have HND := Lib.hid hnd2
      have HF2 := Lib.hid hF2
      have hsmall : es.length ≤ 1048576 := by have := HEL.out; omega
      clear c0 c1 c2 c3 c4 hr1 hcn hl2 hnd2 hF2
      unfold V.agg
      go_wp2_with (at_builtin; refine wpList_app2 rfl (.tmp 12) (.tmp 18) 26 rfl w.heap.size 28 Tryd.underlying26 infoV rfl (by decide) rfl (HO.out.alloc _) (Nat.le_trans hbw.size (by simp)) _ 1 1 (Ent.cells (l[j], A2, c2')) rfl rfl HN.out (ent_ones _) (by unfold maxLen; omega) (by omega) ?_; intro v' w' hown' hg' hv')
      go_roundw
      case rel => exact cp_next hlt HE.out HR.out hb hc2 HL2.out HND.out HF2.out hb1 ((Below.refl _ w1).alloc (Nat.le_refl _) _) hown' hg' hv'
      case measure => simp [intOf]; omega
    · obtain rfl : j = l.length := by omega
      have HLL := Lib.hid (HR.out.lies)
      go_wp2_with fail
      go_ret
      obtain ⟨A2, c2, F, rfl, h2, h3, h4, h5⟩ := HLL.out
      rw [HE.out, List.take_length] at h3
      have h6 := HEL.out
      exact ⟨A2, c2, F, by rw [← h6]; rfl, by omega, h3, h4, h5, hb⟩

set_option maxHeartbeats 1000000 in
theorem copy_step (v : V) (hk : CopyAllSaid v.kids) : CopySaid v := by
  intro A cap w hn hat
  rw [V.nodes_eq] at hn
  have hl : v.kids.length ≤ 1048576 := by have := Vs.len_nodes v.kids; omega
  have HK := fun (c : Nat) (w' : World) (hat' : Vs.at_ w' 0 w'.heap.size v.kids A) => hk A c w' hl (by omega) hat'
  have HC := Lib.hid HK
  have HA := Lib.hid hat
  clear HK hk hat
  unfold V.agg
  go_enter Tryd.func45, Tryd.ntmps45
  go_wp2_with fail
  obtain ⟨w2, hw2⟩ : ∃ w2, w2 = ((w.alloc (.cells #[.int .i64 v.k, .int .i64 v.n, .int .i64 v.e, .string v.s, .slice A v.kids.length cap] 28)).alloc (.cells #[.int .i64 0, .int .i64 0, .int .i64 0, .string ⟨#[]⟩, .slice none 0 0] 28)).alloc (.cells #[.int .i64 v.k, .int .i64 v.n, .int .i64 v.e, .string v.s, .slice A v.kids.length cap] 28) := ⟨_, rfl⟩
  have z2 : w2.heap.size = w.heap.size + 3 := by rw [hw2]; simp
  have b2 : Below w.heap.size w w2 := by rw [hw2]; exact (((Below.refl _ w).alloc (Nat.le_refl _) _).alloc (by simp) _).alloc (by simp; omega) _
  have B1 : Blk w2 (w.heap.size + 1) 28 #[.int .i64 0, .int .i64 0, .int .i64 0, .string ⟨#[]⟩, .slice none 0 0] := by
    have h := (Blk.new (w.alloc (.cells #[.int .i64 v.k, .int .i64 v.n, .int .i64 v.e, .string v.s, .slice A v.kids.length cap] 28)) 28 #[.int .i64 0, .int .i64 0, .int .i64 0, .string ⟨#[]⟩, .slice none 0 0]).alloc (.cells #[.int .i64 v.k, .int .i64 v.n, .int .i64 v.e, .string v.s, .slice A v.kids.length cap] 28)
    rw [← hw2] at h
    simpa using h
  have B2 : Blk w2 (w.heap.size + 2) 28 #[.int .i64 v.k, .int .i64 v.n, .int .i64 v.e, .string v.s, .slice A v.kids.length cap] := by
    have h := Blk.new ((w.alloc (.cells #[.int .i64 v.k, .int .i64 v.n, .int .i64 v.e, .string v.s, .slice A v.kids.length cap] 28)).alloc (.cells #[.int .i64 0, .int .i64 0, .int .i64 0, .string ⟨#[]⟩, .slice none 0 0] 28)) 28 #[.int .i64 v.k, .int .i64 v.n, .int .i64 v.e, .string v.s, .slice A v.kids.length cap]
    rw [← hw2] at h
    simpa using h
  rw [← hw2]
  clear hw2
  refine (HC.out _ w2 (Vs.at_more (Nat.le_refl _) b2.size _ _ (Vs.at_below HA.out b2 (Nat.le_refl _)))).mono ?_
  rintro e w3 ⟨A', c', F, rfl, hc', hl3, hnd, hF, hb3⟩
  have B13 := B1.below hb3 (by omega)
  have B23 := B2.below hb3 (by omega)
  have hbw := b2.trans (hb3.mono b2.size)
  have z3 : w.heap.size + 3 ≤ w3.heap.size := by have := hb3.size; omega
  obtain ⟨p0, p1, p2, p3, p4⟩ := B13.five
  obtain ⟨q0, q1, q2, q3, q4⟩ := B23.five
  have f0 := B13.frozen 0
  have f1 := B13.frozen 1
  have f2 := B13.frozen 2
  have f3 := B13.frozen 3
  have f4 := B13.frozen 4
  have g4 := B23.frozen 4
  have HL := Lib.hid hl3
  have HND := Lib.hid hnd
  have HF := Lib.hid hF
  have HB := Lib.hid hbw
  clear hl3 hnd hF hbw hb3 b2 B1 B2 B13 B23
  go_wp2_with fail
  refine bodyPost_ret (v := .agg #[.int .i64 v.k, .int .i64 v.n, .int .i64 v.e, .string v.s, .slice A' v.kids.length c']) (by simp [results, Tryd.results45, go_sem, p0, p1, p2, p3, p4, q0, q1, q2, q3]) rfl ⟨A', c', F, rfl, hc', Vs.lies_same HL.out ⟨by simp, fun c hc => ?_⟩, HND.out, fun c hc => by have := HF.out c hc; omega, ?_⟩
  · have h1 : c ≠ w.heap.size + 1 := by have := HF.out c hc; omega
    have h2 : c ≠ w.heap.size + 2 := by have := HF.out c hc; omega
    simp only [Below.heap_setCell _ (⟨w.heap.size + 1, _, none⟩ : Addr) _ _ (show c ≠ _ from h1), Below.heap_setCell _ (⟨w.heap.size + 2, _, none⟩ : Addr) _ _ (show c ≠ _ from h2)]
  · repeat (refine Below.setCell ?_ (by simp; try omega) _)
    exact HB.out

theorem copy_all : ∀ (N : Nat), (∀ l : List V, Vs.nodes l ≤ N → CopyAllSaid l) := by
  intro N
  induction N with
  | zero =>
    intro l h
    refine copyAll_step l fun i hi => ?_
    have h1 := Vs.nodes_get i hi
    have h2 := V.nodes_pos l[i]
    omega
  | succ N ih =>
    intro l h
    refine copyAll_step l fun i hi => copy_step _ (ih _ ?_)
    have h1 := Vs.nodes_get i hi
    rw [V.nodes_eq] at h1
    omega
theorem specCopy (v : V) : CopySaid v := copy_step v (copy_all _ _ (Nat.le_refl _))
end Go.Proofs.YtcjamnfboifjeaaDoor

/-
  The order of two numbers and of two texts, and the first that is not 0 of some numbers.
-/
namespace Go.Proofs.YtcjamnfboifjeaaDoor
open Go.RowKit
set_option linter.unusedVariables false
set_option maxRecDepth 100000
set_option linter.unusedSimpArgs false

/-- The order of two numbers. -/
def lessI (a b : Int) : Int := if a < b then -1 else if b < a then 1 else 0
theorem lessI_lt {a b : Int} (h : a < b) : lessI a b = -1 := by unfold lessI; rw [if_pos h]
theorem lessI_gt {a b : Int} (h : b < a) : lessI a b = 1 := by unfold lessI; rw [if_neg (by omega), if_pos h]
theorem lessI_eq (a : Int) : lessI a a = 0 := by unfold lessI; rw [if_neg (by omega), if_neg (by omega)]
theorem lessI_zero {a b : Int} (h : lessI a b = 0) : a = b := by
  unfold lessI at h
  by_cases h1 : a < b
  · rw [if_pos h1] at h; omega
  · rw [if_neg h1] at h
    by_cases h2 : b < a
    · rw [if_pos h2] at h; omega
    · omega
/-- The order of two texts. -/
def lessT (a b : ByteArray) : Int := if Op.bytesLess a.toList b.toList = true then -1 else if (a.toList == b.toList) = true then 0 else 1
theorem lessT_zero {a b : ByteArray} (h : lessT a b = 0) : a = b := by
  unfold lessT at h
  by_cases h1 : Op.bytesLess a.toList b.toList = true
  · rw [if_pos h1] at h; omega
  · rw [if_neg h1] at h
    by_cases h2 : (a.toList == b.toList) = true
    · have h3 := eq_of_beq h2
      rw [ByteArray.toList_eq, ByteArray.toList_eq] at h3
      cases a; cases b
      simp only [ByteArray.mk.injEq]
      exact Array.toList_inj.1 h3
    · rw [if_neg h2] at h; omega
theorem bytesLess_self : ∀ l : List UInt8, Op.bytesLess l l = false
  | [] => rfl
  | a :: l => by simp [Op.bytesLess, bytesLess_self l]
theorem lessT_eq (a : ByteArray) : lessT a a = 0 := by unfold lessT; rw [if_neg (by simp [bytesLess_self]), if_pos (by simp)]

/-- The first number that is not 0. -/
def orN (f : Nat → Int) : Nat → Int
  | 0 => 0
  | n + 1 => if orN f n = 0 then f n else orN f n
theorem orN_zero (f : Nat → Int) : ∀ n, (∀ i, i < n → f i = 0) → orN f n = 0
  | 0, _ => rfl
  | n + 1, h => by
    have h1 := orN_zero f n (fun i hi => h i (by omega))
    unfold orN
    rw [if_pos h1]
    exact h n (by omega)
theorem orN_first (f : Nat → Int) : ∀ (n j : Nat), (∀ i, i < j → f i = 0) → j < n → f j ≠ 0 → orN f n = f j
  | 0, j, _, h, _ => by omega
  | n + 1, j, h, hj, hn => by
    unfold orN
    by_cases hjn : j = n
    · subst hjn
      rw [if_pos (orN_zero f j h)]
    · have h1 := orN_first f n j h (by omega) hn
      rw [if_neg (by rw [h1]; exact hn), h1]
theorem orN_all (f : Nat → Int) (n : Nat) (h : orN f n = 0) : ∀ i, i < n → f i = 0 := by
  intro i
  induction i using Nat.strongRecOn with
  | _ i ih =>
    intro hi
    by_cases h0 : f i = 0
    · exact h0
    · have h1 := orN_first f n i (fun k hk => ih k hk (by omega)) hi h0
      omega
end Go.Proofs.YtcjamnfboifjeaaDoor

/-
  The order of two values, plainly.
-/
namespace Go.Proofs.YtcjamnfboifjeaaDoor
open Go.RowKit
set_option linter.unusedVariables false
set_option maxRecDepth 100000
set_option linter.unusedSimpArgs false

theorem two_new (w : World) (t u : TypeId) (cs ds : Array Value) : ∃ w2, w2 = (w.alloc (.cells cs t)).alloc (.cells ds u) ∧ Blk w2 w.heap.size t cs ∧ Blk w2 (w.heap.size + 1) u ds ∧ Below w.heap.size w w2 ∧ w2.heap.size = w.heap.size + 2 :=
  ⟨_, rfl, (Blk.new w t cs).alloc _, by simpa using Blk.new (w.alloc (.cells cs t)) u ds, ((Below.refl _ w).alloc (Nat.le_refl _) _).alloc (by simp) _, by simp⟩
/-- What is compared ahead of the kids. -/
def ordAt (a b : V) : Nat → Int
  | 0 => lessI a.k b.k
  | 1 => lessI a.n b.n
  | 2 => lessI a.e b.e
  | 3 => lessT a.s b.s
  | _ => lessI a.kids.length b.kids.length
/-- The order of two values but for their kids. -/
def V.ord (a b : V) : Int := orN (ordAt a b) 5
theorem V.ord_len {a b : V} (h : V.ord a b = 0) : a.kids.length = b.kids.length := by
  have h1 := lessI_zero (orN_all _ 5 h 4 (by omega))
  omega
/-- The five numbers that are compared. -/
def ordCells (a b : V) : Array Value := #[.int .i64 (ordAt a b 0), .int .i64 (ordAt a b 1), .int .i64 (ordAt a b 2), .int .i64 (ordAt a b 3), .int .i64 (ordAt a b 4)]
theorem ordCells_at {w : World} {g : Nat} {t : TypeId} {a b : V} (h : Blk w g t (ordCells a b)) (j : Nat) (hj : j < 5) : w.cell? ⟨g, j, none⟩ = some (.int .i64 (ordAt a b j)) := by
  rw [h.cell j]
  unfold ordCells
  rcases (show j = 0 ∨ j = 1 ∨ j = 2 ∨ j = 3 ∨ j = 4 by omega) with rfl | rfl | rfl | rfl | rfl <;> rfl

mutual
/-- The order of two values. -/
def V.cmp : V → V → Int
  | .mk k n e s ks, b => if V.ord (.mk k n e s ks) b = 0 then Vs.cmp ks b.kids else V.ord (.mk k n e s ks) b
def Vs.cmp : List V → List V → Int
  | [], _ => 0
  | a :: r, l => match l with
    | [] => 0
    | b :: t => if V.cmp a b = 0 then Vs.cmp r t else V.cmp a b
end
theorem V.cmp_zero {a b : V} (h : V.ord a b = 0) : V.cmp a b = Vs.cmp a.kids b.kids := by
  cases a
  unfold V.cmp
  rw [if_pos h]
  rfl
theorem V.cmp_ord {a b : V} (h : V.ord a b ≠ 0) : V.cmp a b = V.ord a b := by
  cases a
  unfold V.cmp
  rw [if_neg h]
theorem Vs.cmp_cons (a b : V) (r t : List V) : Vs.cmp (a :: r) (b :: t) = if V.cmp a b = 0 then Vs.cmp r t else V.cmp a b := by simp only [Vs.cmp]
theorem Vs.cmp_nil (l : List V) : Vs.cmp l [] = 0 := by cases l <;> simp only [Vs.cmp]
/-- Lists of which the first j values are alike. -/
theorem Vs.cmp_first : ∀ (l m : List V) (j : Nat) (hl : j < l.length) (hm : j < m.length), (∀ i (h1 : i < l.length) (h2 : i < m.length), i < j → V.cmp l[i] m[i] = 0) → V.cmp l[j] m[j] ≠ 0 → Vs.cmp l m = V.cmp l[j] m[j]
  | a :: r, b :: t, 0, hl, hm, h, h0 => by
    rw [Vs.cmp_cons, if_neg (by simpa using h0)]
    rfl
  | a :: r, b :: t, j + 1, hl, hm, h, h0 => by
    rw [Vs.cmp_cons, if_pos (show V.cmp a b = 0 from h 0 (by simp) (by simp) (by omega))]
    exact Vs.cmp_first r t j (by simpa using hl) (by simpa using hm) (fun i h1 h2 hi => h (i + 1) (by simpa using h1) (by simpa using h2) (by omega)) (by simpa using h0)
theorem Vs.cmp_none : ∀ (l m : List V), (∀ i (h1 : i < l.length) (h2 : i < m.length), V.cmp l[i] m[i] = 0) → Vs.cmp l m = 0
  | [], _, _ => by unfold Vs.cmp; rfl
  | a :: r, [], _ => Vs.cmp_nil _
  | a :: r, b :: t, h => by
    rw [Vs.cmp_cons, if_pos (show V.cmp a b = 0 from h 0 (by simp) (by simp))]
    exact Vs.cmp_none r t (fun i h1 h2 => h (i + 1) (by simpa using h1) (by simpa using h2))
/-- Are two values the same? -/
def V.same (a b : V) : Bool := decide (V.cmp a b = 0)
end Go.Proofs.YtcjamnfboifjeaaDoor
