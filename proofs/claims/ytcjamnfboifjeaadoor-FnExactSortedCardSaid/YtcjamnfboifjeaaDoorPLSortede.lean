/-
  The texts on which the last one leans, part 5: DrawR, PairsR, MapO, SortV, PermK, FitM, MapP, CopyS, Copy, SortI, SpecLess, SpecCmp.
-/
import Derived.Test.YtcjamnfboifjeaaDoorPLSortedd
import Derived.Deep.RegionLaw
import Derived.Deep.AppendLies
import Derived.Handy
import Derived.StillTailTactics
/-
  The draws of values: the rows that a drawn value's kids lie in.
-/
namespace Go.Proofs.YtcjamnfboifjeaaDoor
open Go.RowKit
set_option linter.unusedVariables false
set_option linter.unusedSimpArgs false
set_option maxRecDepth 100000

theorem Calls.atW {P : Program} {f : Nat} {args : Array Value} {Q : Ending → World → Prop} {W : World} (I : World → Prop) (h : I W) (k : ∀ w, I w → Calls P f args w Q) : Calls P f args W Q := k W h
theorem Cur.drew {w : World} {b : Nat} {A : Option Addr} {cap : Nat} {code : List UInt8} (h : Cur w b A cap code) : Cur w.drew b A cap code := h.below ((Below.refl w.heap.size w).drew) h.lt
theorem Drawn.drew {a w : World} {b : Nat} {A : Option Addr} {cap : Nat} {code : List UInt8} (h : Drawn a b A cap code w) : Drawn a b A cap code w.drew := ⟨h.1.drew, h.2.drew⟩
theorem Drawn.undrew {w w' : World} {b : Nat} {A : Option Addr} {cap : Nat} {code : List UInt8} (h : Drawn w.drew b A cap code w') : Drawn w b A cap code w' := ⟨h.1, ((Gr.refl b w).drew).trans h.2⟩
theorem RowOf.gr {w w' : World} {base : Nat} {o : Value} {es : List Ent} {G : List Nat} {b : Nat} (h : RowOf w base o es G) (hg : Gr b w w') (hb : b < base) : RowOf w' base o es G :=
  ⟨own_gr h.own hg hb, kidsLie_same es G h.kids ⟨hg.size, fun c hc => hg.block c (h.lt c hc) (by intro e; injection e with e; have := h.low c hc; omega)⟩, h.nodup, h.low, h.apart⟩
/-- Values appended. -/
theorem RowOf.pushN {w w1 w' : World} {base : Nat} {o v' : Value} {es xs : List Ent} {G F : List Nat} (h : RowOf w base o es G) (hl : kidsLie w xs F)
    (hnd : F.Nodup) (hF : ∀ x ∈ F, base ≤ x) (hFG : ∀ x ∈ F, x ∉ G) (hFo : ∀ g, o.ownBlock = some g → g ∉ F) (h1 : Below w.heap.size w w1)
    (hown' : w'.ownsRow base 28 5 v' (es.length + xs.length) (flat es ++ flat xs)) (hg : w1.grownBy w' o.ownBlock) (hv : v'.ownBlock = o.ownBlock ∨ v'.ownBlock = some w1.heap.size) :
    RowOf w' base v' (es ++ xs) (G ++ F) := by
  have hlt := h.lt
  have hFl : ∀ x ∈ F, x < w.heap.size := kidsLie_lt xs F hl
  have same : ∀ x, x < w.heap.size → (∀ g, o.ownBlock = some g → x ≠ g) → w'.heap[x]? = w.heap[x]? := fun x hx hn => by
    rw [hg.block x (Nat.lt_of_lt_of_le hx h1.size) (fun e => hn x e.symm rfl), h1.block x hx]
  have hsz : w.heap.size ≤ w'.heap.size := Nat.le_trans h1.size hg.size
  refine ⟨?_, kidsLie_append _ _ _ _ (kidsLie_same es G h.kids ⟨hsz, fun x hx => same x (hlt x hx) (fun g hg' e => h.apart g hg' (e ▸ hx))⟩) (kidsLie_same xs F hl ⟨hsz, fun x hx => same x (hFl x hx) (fun g hg' e => hFo g hg' (e ▸ hx))⟩), ?_, ?_, ?_⟩
  · rw [List.length_append, flat_append]; exact hown'
  · exact List.nodup_append.2 ⟨h.nodup, hnd, fun a ha b hb e => hFG b hb (e ▸ ha)⟩
  · intro x hx
    rcases List.mem_append.1 hx with hx | hx
    · exact h.low x hx
    · exact hF x hx
  · intro g hg' hx
    have hgl : g < w.heap.size := by
      rcases List.mem_append.1 hx with hx | hx
      · exact hlt g hx
      · exact hFl g hx
    rcases hv with e | e
    · rw [e] at hg'
      rcases List.mem_append.1 hx with hx | hx
      · exact h.apart g hg' hx
      · exact hFo g hg' hx
    · rw [e] at hg'
      injection hg' with hg'
      have := h1.size
      omega
theorem ent_ones' (x : Ent) : ∀ u ∈ x.cells, u.oneCell' = true := by
  intro u hu
  simp [Ent.cells] at hu
  rcases hu with rfl | rfl | rfl | rfl | rfl <;> rfl

/-- A value under way: its block, its kids' row. -/
def MkAt (w : World) (b p : Nat) (A : Option Addr) (cap : Nat) (code : List UInt8) (kd : Int) (es : List Ent) (oA : Option Addr) (oc : Nat) (wr : World) : Prop :=
  ∃ G, Blk wr p 28 #[.int .i64 kd, .int .i64 0, .int .i64 0, .string ⟨#[]⟩, .slice oA es.length oc] ∧ RowOf wr (p + 1) (.slice oA es.length oc) es G ∧ Drawn w b A cap code wr
theorem MkAt.blk {w wr : World} {b p : Nat} {A : Option Addr} {cap : Nat} {code : List UInt8} {kd : Int} {es : List Ent} {oA : Option Addr} {oc : Nat} (h : MkAt w b p A cap code kd es oA oc wr) :
    Blk wr p 28 #[.int .i64 kd, .int .i64 0, .int .i64 0, .string ⟨#[]⟩, .slice oA es.length oc] := by
  obtain ⟨G, h1, _⟩ := h
  exact h1
theorem MkAt.drawn {w wr : World} {b p : Nat} {A : Option Addr} {cap : Nat} {code : List UInt8} {kd : Int} {es : List Ent} {oA : Option Addr} {oc : Nat} (h : MkAt w b p A cap code kd es oA oc wr) : Drawn w b A cap code wr := by
  obtain ⟨G, _, _, h3⟩ := h
  exact h3
theorem MkAt.own {w wr w1 : World} {b p : Nat} {A : Option Addr} {cap : Nat} {code : List UInt8} {kd : Int} {es : List Ent} {oA : Option Addr} {oc : Nat} (h : MkAt w b p A cap code kd es oA oc wr) (hg : Gr b wr w1) (hb : b < p) :
    w1.ownsRow (p + 1) 28 5 (.slice oA es.length oc) es.length (flat es) := by
  obtain ⟨G, _, h2, _⟩ := h
  exact own_gr h2.own hg (by omega)
theorem MkAt.start {w wr : World} {b p : Nat} {A : Option Addr} {cap : Nat} {code : List UInt8} {kd : Int} (h1 : Blk wr p 28 #[.int .i64 kd, .int .i64 0, .int .i64 0, .string ⟨#[]⟩, .slice none 0 0]) (h2 : Drawn w b A cap code wr) : MkAt w b p A cap code kd [] none 0 wr :=
  ⟨[], h1, RowOf.none ⟨rfl, .inl ⟨rfl, rfl⟩⟩, h2⟩
theorem MkAt.gr {w wr w1 : World} {b p : Nat} {A : Option Addr} {cap : Nat} {code : List UInt8} {kd : Int} {es : List Ent} {oA : Option Addr} {oc : Nat} (h : MkAt w b p A cap code kd es oA oc wr) (hb : b < p) (hd : Drawn wr b A cap code w1) : MkAt w b p A cap code kd es oA oc w1 := by
  obtain ⟨G, h1, h2, h3⟩ := h
  exact ⟨G, res_cells h1 (by omega) hd.2, h2.gr hd.2 (by omega), h3.trans hd⟩
theorem MkAt.below {w wr w1 : World} {b p : Nat} {A : Option Addr} {cap : Nat} {code : List UInt8} {kd : Int} {es : List Ent} {oA : Option Addr} {oc : Nat} (h : MkAt w b p A cap code kd es oA oc wr) (hb : b < p) (hd : Below wr.heap.size wr w1) : MkAt w b p A cap code kd es oA oc w1 :=
  h.gr hb (Drawn.of h.drawn.1 hd)
/-- Behind an append: the value's block is as it was. -/
theorem MkAt.far {w wr w1 w2 w' : World} {b p : Nat} {A : Option Addr} {cap : Nat} {code : List UInt8} {kd : Int} {es : List Ent} {oA : Option Addr} {oc : Nat} (h : MkAt w b p A cap code kd es oA oc wr) (hb : b < p) (hd1 : Drawn wr b A cap code w1) (h2 : Below w1.heap.size w1 w2)
    (hg : w2.grownBy w' (Value.slice oA es.length oc).ownBlock) : Blk w' p 28 #[.int .i64 kd, .int .i64 0, .int .i64 0, .string ⟨#[]⟩, .slice oA es.length oc] := by
  obtain ⟨G, h3, h4, h5⟩ := h
  have e1 := res_cells h3 (by omega) hd1.2
  have e2 := e1.below h2 e1.lt
  refine (hg.block p e2.lt fun e => ?_).trans e2
  have := (h4.own.lt p e.symm).1
  omega
/-- A round: values appended, the row stored. -/
theorem MkAt.next {w wr w1 w2 w' : World} {b p : Nat} {A : Option Addr} {cap : Nat} {code : List UInt8} {kd : Int} {es xs : List Ent} {F : List Nat} {oA : Option Addr} {oc g c' : Nat}
    (hm : MkAt w b p A cap code kd es oA oc wr) (hb : b < w.heap.size) (hp : w.heap.size ≤ p) (hl : kidsLie w1 xs F) (hnd : F.Nodup) (hF : ∀ x ∈ F, wr.heap.size ≤ x) (hd1 : Drawn wr b A cap code w1) (h2 : Below w1.heap.size w1 w2)
    (hown' : w'.ownsRow (p + 1) 28 5 (.slice (some ⟨g, 0, none⟩) (es.length + xs.length) c') (es.length + xs.length) (flat es ++ flat xs)) (hg : w2.grownBy w' (Value.slice oA es.length oc).ownBlock) (hat : (Value.slice oA es.length oc).ownBlock = some g ∨ g = w2.heap.size) :
    MkAt w b p A cap code kd (es ++ xs) (some ⟨g, 0, none⟩) c' (w'.setCell ⟨p, 4, none⟩ (.slice (some ⟨g, 0, none⟩) (es.length + xs.length) c')) := by
  have hfar := hm.far (by omega) hd1 h2 hg
  obtain ⟨G, h3, h4, h5⟩ := hm
  have hpl := h3.lt
  have r1 := h4.gr hd1.2 (by omega)
  have hlt := h4.lt
  have r2 := r1.pushN hl hnd (fun x hx => by have := hF x hx; omega) (fun x hx hG => by have := hlt x hG; have := hF x hx; omega)
    (fun g hg' hx => by have := (h4.own.lt g hg').2; have := hF g hx; omega) h2 hown' hg (by
      rcases hat with e | e
      · exact .inl e.symm
      · exact .inr (by rw [← e]; rfl))
  refine ⟨G ++ F, ?_, ?_, ?_⟩
  · have h := hfar.set 4 (.slice (some ⟨g, 0, none⟩) (es.length + xs.length) c')
    rw [List.length_append]
    simpa using h
  · rw [List.length_append]
    exact r2.gr (Gr.set p w' 4 _) (by omega)
  · have hB : Below w.heap.size w2 w' := ⟨hg.os, hg.tape, hg.output, hg.size, fun k hk => hg.block k (by have := h5.2.size; have := hd1.2.size; have := h2.size; omega) (fun e => by have := (h4.own.lt k e.symm).1; omega)⟩
    have hz : w.heap.size ≤ w1.heap.size := Nat.le_trans h5.2.size hd1.2.size
    exact drawn_over (h5.trans hd1) hb (((h2.mono hz).trans hB).setCell (by show w.heap.size ≤ p; exact hp) _)
/-- The kids of a value that is made. -/
theorem MkAt.lies {w wr : World} {b p : Nat} {A : Option Addr} {cap : Nat} {code : List UInt8} {kd : Int} {es : List Ent} {oA : Option Addr} {oc : Nat} (h : MkAt w b p A cap code kd es oA oc wr) :
    ∃ F, es.length ≤ oc ∧ Vs.lies wr (es.map (·.1)) oA F ∧ F.Nodup ∧ ∀ x ∈ F, p < x := by
  obtain ⟨G, h1, h2, h3⟩ := h
  obtain ⟨A', c, F, e, k1, k2, k3, k4⟩ := h2.lies
  injection e with e1 e2 e3
  subst e1 e3
  exact ⟨F, k1, k2, k3, fun x hx => by have := k4 x hx; omega⟩
end Go.Proofs.YtcjamnfboifjeaaDoor

/-
  The pairs of a map's kids.
-/
namespace Go.Proofs.YtcjamnfboifjeaaDoor
open Go.RowKit
set_option linter.unusedVariables false
set_option linter.unusedSimpArgs false
set_option maxRecDepth 100000

theorem infoP : (Tryd.prog.info? 79).map (fun i => (i.zero, i.size, i.bytes)) = some (some (.agg #[.int .i64 0, .int .i64 0, .int .i64 0, .string ⟨#[]⟩, .slice none 0 0, .int .i64 0, .int .i64 0, .int .i64 0, .string ⟨#[]⟩, .slice none 0 0]), 10, 128) := by kernel_rfl
def pairsL : List Ent → List PEnt
  | a :: b :: r => (a, b) :: pairsL r
  | _ => []
theorem pairsL_len : ∀ es : List Ent, (pairsL es).length = es.length / 2
  | [] => rfl
  | [_] => by simp [pairsL]
  | a :: b :: r => by simp only [pairsL, List.length_cons]; rw [pairsL_len r]; omega
theorem pairsL_at : ∀ (es : List Ent) (j : Nat) (h : 2 * j + 1 < es.length), (pairsL es)[j]? = some (es[2 * j], es[2 * j + 1])
  | a :: b :: r, 0, h => rfl
  | a :: b :: r, j + 1, h => by
    have h2 : 2 * j + 1 < r.length := by simp at h; omega
    simp only [pairsL, List.getElem?_cons_succ]
    rw [pairsL_at r j h2]
    congr 2
theorem pent_ones (x : PEnt) : ∀ u ∈ x.cells, u.oneCell' = true := by
  intro u hu
  simp [PEnt.cells, Ent.cells] at hu
  rcases hu with rfl | rfl | rfl | rfl | rfl | rfl | rfl | rfl | rfl | rfl <;> rfl
/-- What collecting the pairs has laid. -/
def PaRel (v : V) (B : Option Addr) (cB : Nat) (es : List Ent) (w : World) (o i : Value) (wr : World) : Prop :=
  ∃ (j jn : Nat) (A : Option Addr) (c : Nat), i = .int .i64 (jn : Int) ∧ jn ≤ 1000 ∧ Hid (jn = 2 * j ∧ j ≤ es.length / 2) ∧ o = .slice A j c ∧ Hid (wr.ownsRow (w.heap.size + 1) 79 10 o j (flatP ((pairsL es).take j))) ∧ Hid (Blk wr w.heap.size 28 #[.int .i64 v.k, .int .i64 v.n, .int .i64 v.e, .string v.s, .slice B es.length cB]) ∧ Hid (Below w.heap.size w wr) ∧ Hid (w.heap.size < wr.heap.size)
theorem PaRel.next {v : V} {B : Option Addr} {cB : Nat} {es : List Ent} {w wr w2 w8 : World} {j jn : Nat} {A : Option Addr} {c g c2 : Nat} {x y : Ent} (hlt : jn + 1 < es.length) (hn : es.length ≤ 900)
    (HJ : jn = 2 * j ∧ j ≤ es.length / 2) (HAT : (pairsL es).take (j + 1) = (pairsL es).take j ++ [(x, y)]) (HO : wr.ownsRow (w.heap.size + 1) 79 10 (.slice A j c) j (flatP ((pairsL es).take j)))
    (HB : Blk wr w.heap.size 28 #[.int .i64 v.k, .int .i64 v.n, .int .i64 v.e, .string v.s, .slice B es.length cB]) (HW : Below w.heap.size w wr) (HS : w.heap.size < wr.heap.size)
    (h2 : Below wr.heap.size wr w2) (hown' : w8.ownsRow (w.heap.size + 1) 79 10 (.slice (some ⟨g, 0, none⟩) (j + 1) c2) (j + 1) (flatP ((pairsL es).take j) ++ PEnt.cells (x, y)))
    (hgr : w2.grownBy w8 (Value.slice A j c).ownBlock) : PaRel v B cB es w (.slice (some ⟨g, 0, none⟩) (j + 1) c2) (.int .i64 ((jn : Int) + 2)) w8 := by
  have hlow : ∀ k, (Value.slice A j c).ownBlock = some k → w.heap.size + 1 ≤ k := fun k hk => (HO.lt k hk).1
  have e2 := HB.below h2 HB.lt
  have hz := h2.size
  refine ⟨j + 1, jn + 2, some ⟨g, 0, none⟩, c2, by go_num, by omega, Lib.hid ⟨by omega, by omega⟩, rfl, Lib.hid ?_, Lib.hid ((hgr.block _ e2.lt fun e => ?_).trans e2), Lib.hid ((HW.trans (h2.mono (Nat.le_of_lt HS))).grown hgr (by omega) (fun k hk => by have := hlow k hk; omega)), Lib.hid (by have := hgr.size; omega)⟩
  · rw [HAT, flatP_app]
    simpa [flatP] using hown'
  · have := hlow _ e.symm
    omega
set_option maxHeartbeats 4000000 in
theorem pairsOf (v : V) (B : Option Addr) (cB : Nat) (es : List Ent) (w : World) (hn : es.length ≤ 900) (hcell : ∀ q, q < es.length * 5 → ∃ g0, B = some ⟨g0, 0, none⟩ ∧ g0 < w.heap.size ∧ w.cell? ⟨g0, q, none⟩ = (flat es)[q]?) :
    Calls Tryd.prog 74 #[.agg #[.int .i64 v.k, .int .i64 v.n, .int .i64 v.e, .string v.s, .slice B es.length cB]] w fun e w' => ∃ A c, e = .returned (.slice A (es.length / 2) c) ∧ w'.ownsRow (w.heap.size + 1) 79 10 (.slice A (es.length / 2) c) (es.length / 2) (flatP (pairsL es)) ∧ Below w.heap.size w w' := by
  have HC := Lib.hid hcell
  obtain ⟨i0, hi, hz0, hz1, hz2⟩ := info_parts infoP
  clear hcell
  go_enter Tryd.func74, Tryd.ntmps74
  go_wp2_with fail
  go_loopw [3, 4] (fun o i wr => PaRel v B cB es w o i wr) (fun _ i _ => es.length + 2 - (intOf i).toNat)
  case atStart =>
    have hz : (w.alloc (.cells #[.int .i64 v.k, .int .i64 v.n, .int .i64 v.e, .string v.s, .slice B es.length cB] 28)).heap.size = w.heap.size + 1 := by simp
    have ho := own_empty (w.alloc (.cells #[.int .i64 v.k, .int .i64 v.n, .int .i64 v.e, .string v.s, .slice B es.length cB] 28)) 79 10
    rw [hz] at ho
    exact ⟨0, 0, some ⟨w.heap.size + 1, 0, none⟩, 0, rfl, by omega, Lib.hid ⟨rfl, Nat.zero_le _⟩, rfl, Lib.hid ho, Lib.hid ((Blk.new w 28 _).alloc _), Lib.hid (((Below.refl _ w).alloc (Nat.le_refl _) _).alloc (by simp) _), Lib.hid (by simp; omega)⟩
  case round =>
    obtain ⟨j, jn, A, c, rfl, hj, HJ, rfl, HO, HB, HW, HS⟩ := hrel
    obtain ⟨b0, b1, b2, b3, b4⟩ := HB.out.five
    by_cases hlt : jn + 1 < es.length
    · have hlt2 : (jn : Int) + 1 < (es.length : Int) := by omega
      obtain ⟨g0, hg0, hgl, _⟩ := HC.out 0 (by omega)
      have hcl : ∀ (k q : Nat) (h : k < es.length), q < 5 → wr.cell? ⟨g0, k * 5 + q, none⟩ = (es[k].cells)[q]? := fun k q h hq => by
        obtain ⟨g1, e1, e2, e3⟩ := HC.out (k * 5 + q) (by omega)
        have : g1 = g0 := by rw [hg0] at e1; injection e1 with e1; injection e1 with e1; exact e1.symm
        subst this
        rw [HW.out.cell (show (⟨g1, k * 5 + q, none⟩ : Addr).block < w.heap.size from e2), e3, flat_at es k q h hq]
      have hj0 : jn < es.length := by omega
      obtain ⟨x, hx⟩ : ∃ x, es[jn]'hj0 = x := ⟨_, rfl⟩
      obtain ⟨y, hy⟩ : ∃ y, es[jn + 1]'hlt = y := ⟨_, rfl⟩
      have kx : ∀ q, q < 5 → wr.cell? ⟨g0, jn * 5 + q, none⟩ = (es[jn].cells)[q]? := fun q hq => hcl jn q hj0 hq
      have ky : ∀ q, q < 5 → wr.cell? ⟨g0, (jn + 1) * 5 + q, none⟩ = (es[jn + 1].cells)[q]? := fun q hq => hcl (jn + 1) q hlt hq
      rw [hx] at kx
      rw [hy] at ky
      have x0 : wr.cell? ⟨g0, jn * 5, none⟩ = some (.int .i64 x.1.k) := kx 0 (by omega)
      have x1 : wr.cell? ⟨g0, jn * 5 + 1, none⟩ = some (.int .i64 x.1.n) := kx 1 (by omega)
      have x2 : wr.cell? ⟨g0, jn * 5 + 2, none⟩ = some (.int .i64 x.1.e) := kx 2 (by omega)
      have x3 : wr.cell? ⟨g0, jn * 5 + 3, none⟩ = some (.string x.1.s) := kx 3 (by omega)
      have x4 : wr.cell? ⟨g0, jn * 5 + 4, none⟩ = some (.slice x.2.1 x.1.kids.length x.2.2) := kx 4 (by omega)
      have y0 : wr.cell? ⟨g0, (jn + 1) * 5, none⟩ = some (.int .i64 y.1.k) := ky 0 (by omega)
      have y1 : wr.cell? ⟨g0, (jn + 1) * 5 + 1, none⟩ = some (.int .i64 y.1.n) := ky 1 (by omega)
      have y2 : wr.cell? ⟨g0, (jn + 1) * 5 + 2, none⟩ = some (.int .i64 y.1.e) := ky 2 (by omega)
      have y3 : wr.cell? ⟨g0, (jn + 1) * 5 + 3, none⟩ = some (.string y.1.s) := ky 3 (by omega)
      have y4 : wr.cell? ⟨g0, (jn + 1) * 5 + 4, none⟩ = some (.slice y.2.1 y.1.kids.length y.2.2) := ky 4 (by omega)
      have HAT : Hid ((pairsL es).take (j + 1) = (pairsL es).take j ++ [(x, y)]) := Lib.hid (by
        have h1 := HJ.out.1
        subst h1
        have h2 := pairsL_at es j hlt
        rw [hx, hy] at h2
        obtain ⟨h3, h4⟩ := List.getElem?_eq_some_iff.1 h2
        rw [List.take_succ_eq_append_getElem h3, h4])
      subst hg0
      have p0 : (0 : Int) ≤ (jn : Int) + 1 := by omega
      have hwj : IntKind.i64.wrap ((jn : Int) + 1) = (jn : Int) + 1 := by rw [IntKind.wrap_i64]; omega
      have hwj2 : IntKind.i64.wrap ((jn : Int) + 2) = (jn : Int) + 2 := by rw [IntKind.wrap_i64]; omega
      have htn : ((jn : Int) + 1).toNat = jn + 1 := by omega
      have hjn2 : (jn : Int) < (es.length : Int) := by omega
      have HN := Lib.hid (cells_newD wr (PEnt.cells (x, y)).toArray 79)
      have hjs : j ≤ 450 := by have := HJ.out; omega
      have hbase : w.heap.size + 1 ≤ wr.heap.size := HS.out
      have hHD := HS.out
      have hsz : w.heap.size < wr.heap.size := HS.out
      clear kx ky hcl hx hy
      go_upto_region 5 with fail
      go_region_law (first
        | (refine step_append_lies _ (by rfl) (.tmp 14) (.tmp 27) 75 (by rfl) (w.heap.size + 1) 79 i0 _ 10 128 Tryd.underlying75 hi hz0 hz1 hz2 (by rfl) (by omega) (.slice A j c) j (flatP ((pairsL es).take j)) (by rfl) ((HO.out.alloc _).drew) ⟨wr.heap.size, 0, none⟩ 1 1 (PEnt.cells (x, y)) (by rfl) (by rfl) HN.out (pent_ones _) (by omega) (by unfold maxLen; omega) (by omega) (by simp; omega) _ rfl ?_
           intro g c2 w8 hown' hgr hat hlt'))
      all_goals
        go_wp2_with fail
        go_roundw
        case rel => exact PaRel.next hlt hn HJ.out HAT.out HO.out HB.out HW.out HS.out (((Below.refl _ _).alloc (Nat.le_refl _) _).drew) hown' hgr
        case measure => simp [intOf]; omega
    · have hge : ¬ (jn : Int) + 1 < (es.length : Int) := by omega
      have hje : j = es.length / 2 := by have := HJ.out; omega
      have hwj : IntKind.i64.wrap ((jn : Int) + 1) = (jn : Int) + 1 := by rw [IntKind.wrap_i64]; omega
      have htk : (pairsL es).take j = pairsL es := by rw [hje, ← pairsL_len]; exact List.take_length
      have HTK := Lib.hid htk
      have HJE := Lib.hid hje
      clear hje htk
      go_wp2_with fail
      refine bodyPost_ret (v := .slice A j c) (by simp [results, Tryd.results74, go_sem]) rfl ⟨A, c, ?_, ?_, HW.out⟩
      · rw [HJE.out]
      · have h := HO.out
        rw [HTK.out] at h
        rw [← HJE.out]
        exact h
end Go.Proofs.YtcjamnfboifjeaaDoor

/-
  The map of sorted pairs.
-/
namespace Go.Proofs.YtcjamnfboifjeaaDoor
open Go.RowKit
set_option linter.unusedVariables false
set_option linter.unusedSimpArgs false
set_option maxRecDepth 100000

/-- What the loop has laid. -/
def MaRel (d : List PEnt) (w : World) (i : Value) (wr : World) : Prop :=
  ∃ (j : Nat) (A : Option Addr) (cA : Nat), i = .int .i64 (j : Int) ∧ j ≤ d.length ∧ Hid (wr.ownsRow (w.heap.size + 2) 28 5 (.slice A (2 * j) cA) (2 * j) (flatP (d.take j))) ∧ Hid (Blk wr w.heap.size 28 #[.int .i64 0, .int .i64 0, .int .i64 0, .string ⟨#[]⟩, .slice none 0 0]) ∧ Hid (Blk wr (w.heap.size + 1) 28 #[.int .i64 8, .int .i64 0, .int .i64 0, .string ⟨#[]⟩, .slice A (2 * j) cA]) ∧ Hid (Below w.heap.size w wr) ∧ Hid (w.heap.size + 1 < wr.heap.size)
theorem MaRel.far {d : List PEnt} {w wr w2 w8 : World} {j : Nat} {A : Option Addr} {cA : Nat} (HO : wr.ownsRow (w.heap.size + 2) 28 5 (.slice A (2 * j) cA) (2 * j) (flatP (d.take j)))
    {p : Nat} {cs : Array Value} (hp : p < w.heap.size + 2) (HB : Blk wr p 28 cs) (h2 : Below wr.heap.size wr w2) (hgr : w2.grownBy w8 (Value.slice A (2 * j) cA).ownBlock) : Blk w8 p 28 cs := by
  have e2 := HB.below h2 HB.lt
  exact (hgr.block _ e2.lt fun e => by have := (HO.lt _ e.symm).1; omega).trans e2
theorem MaRel.next {d : List PEnt} {w wr w2 w8 : World} {j c2 : Nat} {A A2 : Option Addr} {cA : Nat} {x : PEnt} (hlt : j < d.length) (hd : d.length ≤ 450) (HAT : d.take (j + 1) = d.take j ++ [x])
    (HO : wr.ownsRow (w.heap.size + 2) 28 5 (.slice A (2 * j) cA) (2 * j) (flatP (d.take j)))
    (HB0 : Blk wr w.heap.size 28 #[.int .i64 0, .int .i64 0, .int .i64 0, .string ⟨#[]⟩, .slice none 0 0]) (HB1 : Blk wr (w.heap.size + 1) 28 #[.int .i64 8, .int .i64 0, .int .i64 0, .string ⟨#[]⟩, .slice A (2 * j) cA])
    (HW : Below w.heap.size w wr) (HS : w.heap.size + 1 < wr.heap.size) (h2 : Below wr.heap.size wr w2)
    (hown' : w8.ownsRow (w.heap.size + 2) 28 5 (.slice A2 (2 * j + 2) c2) (2 * j + 2) (flatP (d.take j) ++ PEnt.cells x)) (hgr : w2.grownBy w8 (Value.slice A (2 * j) cA).ownBlock) :
    MaRel d w (.int .i64 ((j : Int) + 1)) (w8.setCell ⟨w.heap.size + 1, 4, none⟩ (.slice A2 (2 * j + 2) c2)) := by
  have hlow : ∀ k, (Value.slice A (2 * j) cA).ownBlock = some k → w.heap.size + 2 ≤ k := fun k hk => (HO.lt k hk).1
  have r0 := MaRel.far HO (by omega) HB0 h2 hgr
  have r1 := MaRel.far HO (by omega) HB1 h2 hgr
  have hz := h2.size
  have hzz := hgr.size
  refine ⟨j + 1, A2, c2, by go_num, hlt, Lib.hid ?_, Lib.hid ?_, Lib.hid ?_, Lib.hid (((HW.trans (h2.mono (by omega))).grown hgr (by omega) (fun k hk => by have := hlow k hk; omega)).setCell (by show w.heap.size ≤ w.heap.size + 1; omega) _), Lib.hid (by simp; omega)⟩
  · rw [HAT, flatP_app, show 2 * (j + 1) = 2 * j + 2 by omega]
    have h := hown'.kept (Gr.set (w.heap.size + 1) w8 4 (.slice A2 (2 * j + 2) c2)) (.inr (fun e => by have := (hown'.lt _ e).1; omega))
    simpa [flatP] using h
  · exact (((Gr.set (w.heap.size + 1) w8 4 (.slice A2 (2 * j + 2) c2))).block _ r0.lt (fun e => by injection e with e; omega)).trans r0
  · have h := r1.set 4 (.slice A2 (2 * j + 2) c2)
    rw [show 2 * (j + 1) = 2 * j + 2 by omega]
    simpa using h
set_option maxHeartbeats 4000000 in
theorem mapOf (d : List PEnt) (g c : Nat) (rest : List Value) (w : World) (hd : d.length ≤ 450) (hp : PRow w g d rest) :
    Calls Tryd.prog 77 #[.slice (some ⟨g, 0, none⟩) d.length c] w fun e w' => ∃ A cA, e = .returned (.agg #[.int .i64 8, .int .i64 0, .int .i64 0, .string ⟨#[]⟩, .slice A (2 * d.length) cA]) ∧ w'.ownsRow (w.heap.size + 2) 28 5 (.slice A (2 * d.length) cA) (2 * d.length) (flatP d) ∧ Below w.heap.size w w' := by
  have HP := Lib.hid hp
  have hgl := hp.lt
  obtain ⟨i0, hi, hz0, hz1, hz2⟩ := info_parts infoV
  clear hp
  go_enter Tryd.func77, Tryd.ntmps77
  go_wp2_with fail
  go_loopw [9] (fun i wr => MaRel d w i wr) (fun i _ => d.length - (intOf i).toNat)
  case atStart =>
    refine ⟨0, none, 0, rfl, Nat.zero_le _, Lib.hid ⟨rfl, .inl ⟨rfl, rfl⟩⟩, Lib.hid ((Blk.new w _ _).alloc _), Lib.hid ?_, Lib.hid (((Below.refl _ w).alloc (Nat.le_refl _) _).alloc (by simp) _), Lib.hid (by simp)⟩
    have h := Blk.new (w.alloc (.cells #[.int .i64 0, .int .i64 0, .int .i64 0, .string ⟨#[]⟩, .slice none 0 0] 28)) 28 #[.int .i64 8, .int .i64 0, .int .i64 0, .string ⟨#[]⟩, .slice none 0 0]
    simpa using h
  case round =>
    obtain ⟨j, A, cA, rfl, hj, HO, HB0, HB1, HW, HS⟩ := hrel
    obtain ⟨b0, b1, b2, b3, b4⟩ := HB1.out.five
    have e4 := HB1.out.frozen 4
    by_cases hlt : j < d.length
    · have hlt2 : (j : Int) < (d.length : Int) := by omega
      have HPr : PRow wr g d rest := Blk.below HP.out HW.out hgl
      have h10 := HPr.ten j hlt
      obtain ⟨x, hx⟩ : ∃ x, d[j]'hlt = x := ⟨_, rfl⟩
      have HAT : Hid (d.take (j + 1) = d.take j ++ [x]) := Lib.hid (by rw [List.take_succ_eq_append_getElem hlt, hx])
      rw [hx] at h10
      obtain ⟨x0, x1, x2, x3, x4, x5, x6, x7, x8, x9⟩ := h10
      clear HPr hx
      go_upto_region 5 with fail
      generalize hw5 : wr.alloc _ = w5
      have HQ : Blk w5 wr.heap.size 79 (PEnt.cells x).toArray := by rw [← hw5]; exact Blk.new wr 79 (PEnt.cells x).toArray
      have H5 : Hid (Below wr.heap.size wr w5) := Lib.hid (by rw [← hw5]; exact (Below.refl _ _).alloc (Nat.le_refl _) _)
      have hz5 : wr.heap.size < w5.heap.size := HQ.lt
      have hcq : ∀ q, w5.cell? ⟨wr.heap.size, q, none⟩ = (PEnt.cells x)[q]? := fun q => by rw [Blk.cell HQ, List.getElem?_toArray]
      have y0 : w5.cell? ⟨wr.heap.size, 0, none⟩ = some (.int .i64 x.1.1.k) := hcq 0
      have y1 : w5.cell? ⟨wr.heap.size, 1, none⟩ = some (.int .i64 x.1.1.n) := hcq 1
      have y2 : w5.cell? ⟨wr.heap.size, 2, none⟩ = some (.int .i64 x.1.1.e) := hcq 2
      have y3 : w5.cell? ⟨wr.heap.size, 3, none⟩ = some (.string x.1.1.s) := hcq 3
      have y4 : w5.cell? ⟨wr.heap.size, 4, none⟩ = some (.slice x.1.2.1 x.1.1.kids.length x.1.2.2) := hcq 4
      have y5 : w5.cell? ⟨wr.heap.size, 5, none⟩ = some (.int .i64 x.2.1.k) := hcq 5
      have y6 : w5.cell? ⟨wr.heap.size, 6, none⟩ = some (.int .i64 x.2.1.n) := hcq 6
      have y7 : w5.cell? ⟨wr.heap.size, 7, none⟩ = some (.int .i64 x.2.1.e) := hcq 7
      have y8 : w5.cell? ⟨wr.heap.size, 8, none⟩ = some (.string x.2.1.s) := hcq 8
      have y9 : w5.cell? ⟨wr.heap.size, 9, none⟩ = some (.slice x.2.2.1 x.2.1.kids.length x.2.2.2) := hcq 9
      have b5 : w5.cell? ⟨w.heap.size + 1, 4, none⟩ = some (.slice A (2 * j) cA) := by
        rw [H5.out.cell (show (⟨w.heap.size + 1, 4, none⟩ : Addr).block < wr.heap.size from HS.out)]; exact b4
      have HO5 := Lib.hid (own_below HO.out H5.out)
      have HN := Lib.hid (cells_new w5 (PEnt.cells x).toArray 28)
      have hHS := HS.out
      have hbase : w.heap.size + 2 ≤ w5.heap.size := by omega
      clear hcq x0 x1 x2 x3 x4 x5 x6 x7 x8 x9 b0 b1 b2 b3 b4 hw5 HQ
      go_wp2_with (at_builtin; refine wpList_app2 rfl (.tmp 14) (.tmp 19) 26 rfl (w.heap.size + 2) 28 Tryd.underlying26 infoV rfl (by decide) rfl (HO5.out.alloc _) (Nat.le_trans hbase (by simp)) _ 2 2 (PEnt.cells x) rfl rfl HN.out (pent_ones _) (by unfold maxLen; omega) (by omega) ?_; intro v' w8 hown' hgr hv'; obtain ⟨A2, c2, rfl⟩ := own_slice hown'; have h25 := Lib.hid (Below.trans H5.out ((Below.refl wr.heap.size w5).alloc (Nat.le_of_lt hz5) (Obj.cells (PEnt.cells x).toArray 28))); have B8 := Lib.hid (MaRel.far HO.out (by omega) HB1.out h25.out hgr); have q4 := (B8.out.five).2.2.2.2; have e8 := B8.out.frozen 4)
      go_roundw
      case rel => exact MaRel.next hlt hd HAT.out HO.out HB0.out HB1.out HW.out HS.out h25.out hown' hgr
      case measure => simp [intOf]; omega
    · have hje : j = d.length := by omega
      subst hje
      obtain ⟨c0, c1, c2, c3, c4⟩ := HB0.out.five
      have f0 := HB0.out.frozen 0
      have f1 := HB0.out.frozen 1
      have f2 := HB0.out.frozen 2
      have f3 := HB0.out.frozen 3
      have f4 := HB0.out.frozen 4
      clear hlt hj
      go_wp2_with fail
      have R : Blk (((((wr.setCell ⟨w.heap.size, 0, none⟩ (.int .i64 8)).setCell ⟨w.heap.size, 1, none⟩ (.int .i64 0)).setCell ⟨w.heap.size, 2, none⟩ (.int .i64 0)).setCell ⟨w.heap.size, 3, none⟩ (.string ⟨#[]⟩)).setCell ⟨w.heap.size, 4, none⟩ (.slice A (2 * d.length) cA)) w.heap.size 28 #[.int .i64 8, .int .i64 0, .int .i64 0, .string ⟨#[]⟩, .slice A (2 * d.length) cA] := by
        have h := ((((HB0.out.set 0 (.int .i64 8)).set 1 (.int .i64 0)).set 2 (.int .i64 0)).set 3 (.string ⟨#[]⟩)).set 4 (.slice A (2 * d.length) cA)
        simpa using h
      have RG : Gr w.heap.size wr (((((wr.setCell ⟨w.heap.size, 0, none⟩ (.int .i64 8)).setCell ⟨w.heap.size, 1, none⟩ (.int .i64 0)).setCell ⟨w.heap.size, 2, none⟩ (.int .i64 0)).setCell ⟨w.heap.size, 3, none⟩ (.string ⟨#[]⟩)).setCell ⟨w.heap.size, 4, none⟩ (.slice A (2 * d.length) cA)) := by
        repeat (first | exact Gr.refl _ _ | (refine Gr.trans ?_ (Gr.set _ _ _ _)))
      generalize (((((wr.setCell ⟨w.heap.size, 0, none⟩ (.int .i64 8)).setCell ⟨w.heap.size, 1, none⟩ (.int .i64 0)).setCell ⟨w.heap.size, 2, none⟩ (.int .i64 0)).setCell ⟨w.heap.size, 3, none⟩ (.string ⟨#[]⟩)).setCell ⟨w.heap.size, 4, none⟩ (.slice A (2 * d.length) cA)) = w9 at R RG ⊢
      clear c0 c1 c2 c3 c4
      obtain ⟨c0, c1, c2, c3, c4⟩ := R.five
      refine bodyPost_ret (v := .agg #[.int .i64 8, .int .i64 0, .int .i64 0, .string ⟨#[]⟩, .slice A (2 * d.length) cA]) (by simp [results, Tryd.results77, go_sem, c0, c1, c2, c3, c4]) rfl ⟨A, cA, rfl, ?_, ?_⟩
      · have h := HO.out
        rw [List.take_length] at h
        exact World.ownsRow.kept h RG (.inr (fun e => by have := (HO.out.lt _ e).1; omega))
      · exact HW.out.grown RG (by have := HS.out; omega) (fun k hk => by injection hk with hk; omega)
end Go.Proofs.YtcjamnfboifjeaaDoor

/-
  The sorted value: plain.
-/
namespace Go.Proofs.YtcjamnfboifjeaaDoor
set_option linter.unusedVariables false
set_option linter.unusedSimpArgs false

abbrev VP := V × V
def vle (x y : VP) : Prop := V.cmp x.1 y.1 ≤ 0
theorem vle_total (x y : VP) : vle x y ∨ vle y x := by have := V.cmp_swap x.1 y.1; unfold vle; omega
theorem vle_trans {x y z : VP} (h : vle x y) (k : vle y z) : vle x z := by
  have h1 := V.cmp_tri x.1 y.1 z.1
  unfold vle at *
  unfold Tri at h1
  omega
def insP (x : VP) : List VP → List VP
  | [] => [x]
  | y :: r => if V.cmp x.1 y.1 < 0 then x :: y :: r else y :: insP x r
theorem insP_perm (x : VP) : ∀ l, (insP x l).Perm (x :: l)
  | [] => List.Perm.refl _
  | y :: r => by
    unfold insP
    split
    · exact List.Perm.refl _
    · exact ((insP_perm x r).cons y).trans (List.Perm.swap x y r)
theorem insP_pw (x : VP) : ∀ l, l.Pairwise vle → (insP x l).Pairwise vle
  | [], _ => by simp [insP]
  | y :: r, h => by
    unfold insP
    rw [List.pairwise_cons] at h
    split
    · next hc =>
      have hxy : vle x y := by unfold vle; omega
      refine List.pairwise_cons.2 ⟨fun z hz => ?_, List.pairwise_cons.2 h⟩
      rcases List.mem_cons.1 hz with rfl | hz
      · exact hxy
      · exact vle_trans hxy (h.1 z hz)
    · next hc =>
      refine List.pairwise_cons.2 ⟨fun z hz => ?_, insP_pw x r h.2⟩
      have hm := (insP_perm x r).mem_iff.1 hz
      rcases List.mem_cons.1 hm with rfl | hm
      · have := V.cmp_swap z.1 y.1
        unfold vle
        omega
      · exact h.1 z hm
def sortP : List VP → List VP
  | [] => []
  | x :: r => insP x (sortP r)
theorem sortP_perm : ∀ l, (sortP l).Perm l
  | [] => List.Perm.refl _
  | x :: r => (insP_perm x _).trans ((sortP_perm r).cons x)
theorem sortP_pw : ∀ l, (sortP l).Pairwise vle
  | [] => List.Pairwise.nil
  | x :: r => insP_pw x _ (sortP_pw r)
/-- Two sorted orders of pairs whose keys differ are one. -/
theorem pw_uniq : ∀ (a b : List VP), a.Perm b → a.Pairwise vle → b.Pairwise vle → (∀ x ∈ a, ∀ y ∈ a, V.cmp x.1 y.1 = 0 → x = y) → a = b
  | [], b, h, _, _, _ => (List.Perm.nil_eq h)
  | x :: r, b, h, ha, hb, hk => by
    cases b with
    | nil => exact absurd h.length_eq (by simp)
    | cons y t =>
      rw [List.pairwise_cons] at ha hb
      have hy : y ∈ x :: r := h.mem_iff.2 List.mem_cons_self
      have hx : x ∈ y :: t := h.mem_iff.1 List.mem_cons_self
      have e : x = y := by
        rcases List.mem_cons.1 hy with e | hy'
        · exact e.symm
        · rcases List.mem_cons.1 hx with e | hx'
          · exact e
          · have h1 := ha.1 y hy'
            have h2 := hb.1 x hx'
            have h3 := V.cmp_swap x.1 y.1
            unfold vle at h1 h2
            exact hk x List.mem_cons_self y hy (by omega)
      subst e
      rw [pw_uniq r t ((List.perm_cons x).1 h) ha.2 hb.2 (fun u hu z hz => hk u (List.mem_cons_of_mem _ hu) z (List.mem_cons_of_mem _ hz))]
theorem sortP_uniq {l Z : List VP} (h : Z.Perm l) (hp : Z.Pairwise vle) (hk : ∀ x ∈ l, ∀ y ∈ l, V.cmp x.1 y.1 = 0 → x = y) : Z = sortP l :=
  pw_uniq _ _ (h.trans (sortP_perm l).symm) hp (sortP_pw l) fun x hx y hy => hk x (h.mem_iff.1 hx) y (h.mem_iff.1 hy)
/-- The pairs of a map's kids, and the kids of pairs. -/
def prs : List V → List VP
  | a :: b :: r => (a, b) :: prs r
  | _ => []
def unp : List VP → List V
  | [] => []
  | x :: r => x.1 :: x.2 :: unp r
mutual
/-- A value with the pairs of each map in order. -/
def V.srt : V → V
  | .mk k n e s ks => .mk k n e s (if k = 8 then unp (sortP (prs (Vs.srt ks))) else Vs.srt ks)
def Vs.srt : List V → List V
  | [] => []
  | v :: r => v.srt :: Vs.srt r
end
theorem Vs.srt_map : ∀ l, Vs.srt l = l.map V.srt
  | [] => by simp [Vs.srt]
  | v :: r => by simp only [Vs.srt, List.map_cons]; rw [Vs.srt_map r]
theorem V.srt_eq (v : V) : v.srt = .mk v.k v.n v.e v.s (if v.k = 8 then unp (sortP (prs (v.kids.map V.srt))) else v.kids.map V.srt) := by
  cases v with
  | mk k n e s ks =>
    rw [V.srt, Vs.srt_map]
    rfl
theorem prs_len : ∀ l : List V, (prs l).length = l.length / 2
  | [] => rfl
  | [_] => by simp [prs]
  | a :: b :: r => by simp only [prs, List.length_cons]; rw [prs_len r]; omega
theorem prs_at : ∀ (l : List V) (j : Nat) (h : 2 * j + 1 < l.length), (prs l)[j]? = some (l[2 * j], l[2 * j + 1])
  | a :: b :: r, 0, h => rfl
  | a :: b :: r, j + 1, h => by
    have h2 : 2 * j + 1 < r.length := by simp at h; omega
    simp only [prs, List.getElem?_cons_succ]
    rw [prs_at r j h2]
    congr 2
theorem unp_len : ∀ l : List VP, (unp l).length = 2 * l.length
  | [] => rfl
  | x :: r => by simp only [unp, List.length_cons]; rw [unp_len r]; omega
theorem unp_prs : ∀ l : List V, l.length % 2 = 0 → unp (prs l) = l
  | [], _ => rfl
  | [_], h => by simp at h
  | a :: b :: r, h => by simp only [prs, unp]; rw [unp_prs r (by simp only [List.length_cons] at h; omega)]
theorem prs_unp : ∀ l : List VP, prs (unp l) = l
  | [] => rfl
  | x :: r => by simp only [prs, unp]; rw [prs_unp r]
end Go.Proofs.YtcjamnfboifjeaaDoor

/-
  Rows of values in another order.
-/
namespace Go.Proofs.YtcjamnfboifjeaaDoor
open Go.RowKit
set_option linter.unusedVariables false
set_option linter.unusedSimpArgs false

theorem kidsLie_perm {w : World} {es es' : List Ent} (h : es.Perm es') : ∀ G, kidsLie w es G → ∃ G', G'.Perm G ∧ kidsLie w es' G' := by
  induction h with
  | nil => exact fun G h => ⟨G, List.Perm.refl _, h⟩
  | cons x _ ih =>
    intro G h
    simp only [kidsLie] at h
    obtain ⟨G1, G2, rfl, h1, h2, h3⟩ := h
    obtain ⟨G', p, k⟩ := ih G2 h3
    exact ⟨G1 ++ G', p.append_left G1, by simp only [kidsLie]; exact ⟨G1, G', rfl, h1, h2, k⟩⟩
  | swap x y l =>
    intro G h
    simp only [kidsLie] at h
    obtain ⟨G1, G2, rfl, h1, h2, G3, G4, rfl, h3, h4, h5⟩ := h
    refine ⟨G3 ++ (G1 ++ G4), ?_, by simp only [kidsLie]; exact ⟨G3, _, rfl, h3, h4, G1, G4, rfl, h1, h2, h5⟩⟩
    rw [← List.append_assoc, ← List.append_assoc]
    exact List.perm_append_comm.append_right G4
  | trans _ _ ih1 ih2 =>
    intro G h
    obtain ⟨G1, p1, k1⟩ := ih1 G h
    obtain ⟨G2, p2, k2⟩ := ih2 G1 k1
    exact ⟨G2, p2.trans p1, k2⟩
/-- The values of pairs, with their rows. -/
def entsP : List PEnt → List Ent
  | [] => []
  | x :: r => x.1 :: x.2 :: entsP r
theorem entsP_len : ∀ d : List PEnt, (entsP d).length = 2 * d.length
  | [] => rfl
  | x :: r => by simp only [entsP, List.length_cons]; rw [entsP_len r]; omega
theorem flat_entsP : ∀ d : List PEnt, flat (entsP d) = flatP d
  | [] => rfl
  | x :: r => by
    have h := flat_entsP r
    simp only [entsP, flat, List.flatMap_cons] at h ⊢
    rw [h, flatP_cons, PEnt.cells, List.append_assoc]
theorem entsP_pairsL : ∀ es : List Ent, es.length % 2 = 0 → entsP (pairsL es) = es
  | [], _ => rfl
  | [_], h => by simp at h
  | a :: b :: r, h => by simp only [pairsL, entsP]; rw [entsP_pairsL r (by simp only [List.length_cons] at h; omega)]
theorem entsP_perm {a b : List PEnt} (h : a.Perm b) : (entsP a).Perm (entsP b) := by
  induction h with
  | nil => exact List.Perm.refl _
  | cons x _ ih => exact (ih.cons _).cons _
  | swap x y l =>
    show (y.1 :: y.2 :: x.1 :: x.2 :: entsP l).Perm (x.1 :: x.2 :: y.1 :: y.2 :: entsP l)
    exact (List.perm_append_comm (l₁ := [y.1, y.2]) (l₂ := [x.1, x.2])).append_right (entsP l)
  | trans _ _ h1 h2 => exact h1.trans h2
/-- The pair of values of a pair with rows. -/
def vp (x : PEnt) : VP := (x.1.1, x.2.1)
theorem map_entsP : ∀ d : List PEnt, (entsP d).map (·.1) = unp (d.map vp)
  | [] => rfl
  | x :: r => by simp only [entsP, List.map_cons, unp, vp]; rw [map_entsP r]
theorem prs_map : ∀ es : List Ent, prs (es.map (·.1)) = (pairsL es).map vp
  | [] => rfl
  | [_] => rfl
  | a :: b :: r => by simp only [List.map_cons, prs, pairsL]; rw [prs_map r]; rfl
theorem own_prow {w : World} {base n c : Nat} {A : Option Addr} {d : List PEnt} (h : w.ownsRow base 79 10 (.slice A n c) n (flatP d)) : n = 0 ∨ ∃ g rest, A = some ⟨g, 0, none⟩ ∧ base ≤ g ∧ PRow w g d rest := by
  rcases h.2 with ⟨e, h0⟩ | ⟨g, cap, cur, e, h1, h2, h3, h4, h5, h6⟩
  · exact .inl h0
  · injection e with e1 e2 e3
    refine .inr ⟨g, cur.toList.drop (n * 10), e1, h1, ?_⟩
    unfold PRow Blk
    rw [← h6, List.take_append_drop]
    exact h2
/-- The row of a sorted map. -/
theorem sorted_row {w w' : World} {base base' : Nat} {o o' : Value} {es : List Ent} {Z : List PEnt} {G : List Nat} (hr : RowOf w base o es G) (hev : es.length % 2 = 0) (hZ : Z.Perm (pairsL es)) (hs : ∀ c ∈ G, w'.heap[c]? = w.heap[c]?) (hsz : w.heap.size ≤ w'.heap.size)
    (hb : ∀ c ∈ G, base' ≤ c) (ho : w'.ownsRow base' 28 5 o' (entsP Z).length (flatP Z)) (ha : ∀ g, o'.ownBlock = some g → g ∉ G) : ∃ G', RowOf w' base' o' (entsP Z) G' := by
  have hp : (entsP (pairsL es)).Perm (entsP Z) := entsP_perm hZ.symm
  rw [entsP_pairsL es hev] at hp
  obtain ⟨G', p, k⟩ := kidsLie_perm hp G (kidsLie_same es G hr.kids ⟨hsz, hs⟩)
  exact ⟨G', by rw [flat_entsP]; exact ho, k, p.symm.nodup hr.nodup, fun c hc => hb c (p.mem_iff.1 hc), fun g hg hc => ha g hg (p.mem_iff.1 hc)⟩
end Go.Proofs.YtcjamnfboifjeaaDoor

/-
  What the maps of a value must be for it to be sorted.
-/
namespace Go.Proofs.YtcjamnfboifjeaaDoor
open Go.RowKit
set_option linter.unusedVariables false
set_option linter.unusedSimpArgs false

/-- The pairs of a map are apart, keys have no kids. -/
def mapFit (v : V) : Prop := v.k = 8 → v.kids.length ≤ 900 ∧ v.kids.length % 2 = 0 ∧ (∀ x ∈ prs v.kids, x.1.kids = [] ∧ x.1.k ≠ 8) ∧ (prs v.kids).Pairwise (fun x y => V.cmp x.1 y.1 ≠ 0) ∧ v.n = 0 ∧ v.e = 0 ∧ v.s = ⟨#[]⟩
mutual
def V.fitM : V → Prop
  | .mk k n e s ks => mapFit (.mk k n e s ks) ∧ Vs.fitM ks
def Vs.fitM : List V → Prop
  | [] => True
  | v :: r => V.fitM v ∧ Vs.fitM r
end
theorem V.fitM_eq (v : V) : V.fitM v ↔ mapFit v ∧ Vs.fitM v.kids := by cases v; simp only [V.fitM, V.kids]
theorem Vs.fitM_get : ∀ {l : List V}, Vs.fitM l → ∀ i (h : i < l.length), V.fitM l[i]
  | v :: r, h, 0, _ => by simp only [Vs.fitM] at h; exact h.1
  | v :: r, h, i + 1, hi => by simp only [Vs.fitM] at h; exact Vs.fitM_get h.2 i (by simpa using hi)
theorem fit_get {v : V} (h : v.fitM) (i : Nat) (hi : i < v.kids.length) : V.fitM v.kids[i] := Vs.fitM_get ((V.fitM_eq v).1 h).2 i hi
theorem srt_leaf {v : V} (hk : v.kids = []) (h8 : v.k ≠ 8) : v.srt = v := by
  rw [V.srt_eq, if_neg h8, hk]
  cases v
  simp only [V.kids] at hk
  subst hk
  rfl
theorem prs_srt : ∀ l : List V, prs (l.map V.srt) = (prs l).map (fun x => (x.1.srt, x.2.srt))
  | [] => rfl
  | [_] => rfl
  | a :: b :: r => by simp only [List.map_cons, prs]; rw [prs_srt r]
theorem pw_ne : ∀ {l : List VP}, l.Pairwise (fun x y => V.cmp x.1 y.1 ≠ 0) → ∀ x ∈ l, ∀ y ∈ l, V.cmp x.1 y.1 = 0 → x = y
  | a :: r, h, x, hx, y, hy, hc => by
    rw [List.pairwise_cons] at h
    rcases List.mem_cons.1 hx with ex | hx2
    · rcases List.mem_cons.1 hy with ey | hy2
      · rw [ex, ey]
      · subst ex
        exact absurd hc (h.1 y hy2)
    · rcases List.mem_cons.1 hy with ey | hy2
      · subst ey
        exact absurd (by have := V.cmp_swap x.1 y.1; omega) (h.1 x hx2)
      · exact pw_ne h.2 x hx2 y hy2 hc
theorem fit_keys {v : V} (h : mapFit v) (h8 : v.k = 8) {es : List Ent} (he : es.map (·.1) = v.kids.map V.srt) :
    (∀ x ∈ pairsL es, leafP x) ∧ ∀ Z, Z.Perm (pairsL es) → Z.Pairwise kle → (entsP Z).map (·.1) = unp (sortP (prs (v.kids.map V.srt))) := by
  obtain ⟨_, _, h1, h2, _⟩ := h h8
  have e : (pairsL es).map vp = (prs v.kids).map (fun x => (x.1.srt, x.2.srt)) := by rw [← prs_map, he, prs_srt]
  have hkey : ∀ x ∈ prs v.kids, x.1.srt = x.1 := fun x hx => srt_leaf (h1 x hx).1 (h1 x hx).2
  refine ⟨fun x hx => ?_, fun Z hZ hp => ?_⟩
  · have hm : vp x ∈ (prs v.kids).map (fun x => (x.1.srt, x.2.srt)) := by rw [← e]; exact List.mem_map_of_mem hx
    obtain ⟨y, hy, e2⟩ := List.mem_map.1 hm
    have e3 : x.1.1 = y.1.srt := (congrArg Prod.fst e2).symm
    unfold leafP
    rw [e3, hkey y hy]
    exact (h1 y hy).1
  · rw [map_entsP]
    congr 1
    refine sortP_uniq (by rw [← he, prs_map]; exact hZ.map vp) (List.pairwise_map.2 hp) fun x hx y hy hc => ?_
    rw [prs_srt] at hx hy
    obtain ⟨a, ha, rfl⟩ := List.mem_map.1 hx
    obtain ⟨b, hb, rfl⟩ := List.mem_map.1 hy
    have := pw_ne h2 a ha b hb (by simpa [hkey a ha, hkey b hb] using hc)
    rw [this]
end Go.Proofs.YtcjamnfboifjeaaDoor

/-
  Sorting a row of pairs, by the row that the caller owns.
-/
namespace Go.Proofs.YtcjamnfboifjeaaDoor
open Go.RowKit
set_option linter.unusedVariables false
set_option linter.unusedSimpArgs false
set_option maxRecDepth 100000

theorem sortPairs {base n c : Nat} {A : Option Addr} {D : List PEnt} {w : World} (ho : w.ownsRow base 79 10 (.slice A n c) n (flatP D)) (hn : n = D.length) (hd : n ≤ 450) (hD : ∀ x ∈ D, leafP x) :
    Calls Tryd.prog 75 #[.slice A n c, .func (Fn.func 76) #[] #[]] w fun e w' => e = .returned (.tuple #[]) ∧ ∃ Z, Z.Perm D ∧ Z.Pairwise kle ∧ (n = 0 ∨ ∃ g rest, A = some ⟨g, 0, none⟩ ∧ base ≤ g ∧ PRow w' g Z rest) ∧ Below base w w' := by
  rcases own_prow ho with h0 | ⟨g, rest, rfl, hg, hp⟩
  · subst h0
    refine (sortStable0 A c _ w).mono ?_
    rintro e w' ⟨rfl, rfl⟩
    have : D = [] := List.eq_nil_of_length_eq_zero hn.symm
    subst this
    exact ⟨rfl, [], List.Perm.refl _, List.Pairwise.nil, .inl rfl, Below.refl _ _⟩
  · have hb : base ≤ w.heap.size := by have := ho.lt g rfl; omega
    refine (sortStable g c D rest w n hp hD hn (by omega)).mono ?_
    rintro e w' ⟨rfl, Z, h1, h2, h3, h4⟩
    exact ⟨rfl, Z, h1, h2, .inr ⟨g, rest, rfl, hg, h3⟩, (Below.refl base w).grown h4 hb (fun k hk => by injection hk with hk; omega)⟩
/-- The empty map. -/
theorem mapOf0 (A : Option Addr) (c : Nat) (w : World) :
    Calls Tryd.prog 77 #[.slice A 0 c] w fun e w' => ∃ A2 cA, e = .returned (.agg #[.int .i64 8, .int .i64 0, .int .i64 0, .string ⟨#[]⟩, .slice A2 0 cA]) ∧ w'.ownsRow (w.heap.size + 2) 28 5 (.slice A2 0 cA) 0 [] ∧ Below w.heap.size w w' := by
  go_enter Tryd.func77, Tryd.ntmps77
  go_wp2_with fail
  go_rounds 1
  have R : Blk ((w.alloc (.cells #[.int .i64 8, .int .i64 0, .int .i64 0, .string ⟨#[]⟩, .slice none 0 0] 28)).alloc (.cells #[.int .i64 8, .int .i64 0, .int .i64 0, .string ⟨#[]⟩, .slice none 0 0] 28)) w.heap.size 28 #[.int .i64 8, .int .i64 0, .int .i64 0, .string ⟨#[]⟩, .slice none 0 0] := (Blk.new w _ _).alloc _
  have RW : Below w.heap.size w ((w.alloc (.cells #[.int .i64 8, .int .i64 0, .int .i64 0, .string ⟨#[]⟩, .slice none 0 0] 28)).alloc (.cells #[.int .i64 8, .int .i64 0, .int .i64 0, .string ⟨#[]⟩, .slice none 0 0] 28)) := ((Below.refl _ w).alloc (Nat.le_refl _) _).alloc (by simp) _
  generalize ((w.alloc (.cells #[.int .i64 8, .int .i64 0, .int .i64 0, .string ⟨#[]⟩, .slice none 0 0] 28)).alloc (.cells #[.int .i64 8, .int .i64 0, .int .i64 0, .string ⟨#[]⟩, .slice none 0 0] 28)) = w9 at R RW ⊢
  obtain ⟨c0, c1, c2, c3, c4⟩ := R.five
  exact bodyPost_ret (v := .agg #[.int .i64 8, .int .i64 0, .int .i64 0, .string ⟨#[]⟩, .slice none 0 0]) (by simp [results, Tryd.results77, go_sem, c0, c1, c2, c3, c4]) rfl ⟨none, 0, rfl, ⟨rfl, .inl ⟨rfl, rfl⟩⟩, RW⟩
theorem mapPairs {base n c : Nat} {A : Option Addr} {Z : List PEnt} {w : World} (hn : n = Z.length) (hd : n ≤ 450) (h : n = 0 ∨ ∃ g rest, A = some ⟨g, 0, none⟩ ∧ base ≤ g ∧ PRow w g Z rest) :
    Calls Tryd.prog 77 #[.slice A n c] w fun e w' => ∃ A2 cA, e = .returned (.agg #[.int .i64 8, .int .i64 0, .int .i64 0, .string ⟨#[]⟩, .slice A2 (2 * n) cA]) ∧ w'.ownsRow (w.heap.size + 2) 28 5 (.slice A2 (2 * n) cA) (2 * n) (flatP Z) ∧ Below w.heap.size w w' := by
  subst hn
  rcases h with h0 | ⟨g, rest, rfl, hg, hp⟩
  · have : Z = [] := List.eq_nil_of_length_eq_zero h0
    subst this
    exact mapOf0 A c w
  · exact mapOf Z g c rest w hd hp
end Go.Proofs.YtcjamnfboifjeaaDoor

/-
  The reference's copy of a value, l02Copy: the same tree in new memory, each row in a block of its own.
-/
namespace Go.Proofs.YtcjamnfboifjeaaDoor
open Go.RowKit
set_option linter.unusedVariables false
set_option linter.unusedSimpArgs false

/-- What a copy hands back. -/
def Copied (v : V) (w : World) (e : Ending) (w' : World) : Prop := ∃ A' c' F, e = .returned (v.agg A' c') ∧ v.kids.length ≤ c' ∧ Vs.lies w' v.kids A' F ∧ F.Nodup ∧ (∀ c ∈ F, w.heap.size ≤ c) ∧ Below w.heap.size w w'
def CopySaid (v : V) : Prop := ∀ (A : Option Addr) (cap : Nat) (w : World), v.nodes ≤ 1048577 → Vs.at_ w 0 w.heap.size v.kids A →
    Calls Tryd.prog 45 #[v.agg A cap] w (Copied v w)
def CopyAllSaid (l : List V) : Prop := ∀ (A : Option Addr) (cap : Nat) (w : World), l.length ≤ 1048576 → Vs.nodes l ≤ 1048576 → Vs.at_ w 0 w.heap.size l A →
    Calls Tryd.prog 73 #[.slice A l.length cap] w fun e w' => ∃ A' c' F, e = .returned (.slice A' l.length c') ∧ l.length ≤ c' ∧ Vs.lies w' l A' F ∧ F.Nodup ∧ (∀ c ∈ F, w.heap.size ≤ c) ∧ Below w.heap.size w w'

/-- What the copying loops have laid. -/
def CpRel (l : List V) (w : World) (o i : Value) (wr : World) : Prop :=
  ∃ (j : Nat) (es : List Ent) (G : List Nat), j ≤ l.length ∧ i = .int .i64 j ∧ es.map (·.1) = l.take j ∧ RowOf wr w.heap.size o es G ∧ Below w.heap.size w wr
theorem cp_next {l : List V} {w wr w1 w' : World} {j : Nat} {es : List Ent} {G F : List Nat} {o v' : Value} (hj : j < l.length) (he : es.map (·.1) = l.take j) (hr : RowOf wr w.heap.size o es G) (hb : Below w.heap.size w wr) {A : Option Addr} {c : Nat}
    (hc : (l[j]).kids.length ≤ c) (hl : Vs.lies w1 (l[j]).kids A F) (hnd : F.Nodup) (hF : ∀ x ∈ F, wr.heap.size ≤ x) (hb1 : Below wr.heap.size wr w1) {w2 : World} (h2 : Below w1.heap.size w1 w2)
    (hown' : w'.ownsRow w.heap.size 28 5 v' (es.length + 1) (flat es ++ Ent.cells (l[j], A, c))) (hg : w2.grownBy w' o.ownBlock) (hv : v'.ownBlock = o.ownBlock ∨ v'.ownBlock = some w2.heap.size) :
    CpRel l w v' (.int .i64 ((j : Int) + 1)) w' := by
  have hr1 := hr.below (Nat.le_refl _) hb1
  have hlt := hr.lt
  have h := hr1.push hc hl hnd (fun x hx => Nat.le_trans hb.size (hF x hx)) (fun x hx hG => by have := hlt x hG; have := hF x hx; omega)
    (fun g hg' hx => by have := (hr.own.lt g hg').2; have := hF g hx; omega) h2 hown' hg hv
  refine ⟨j + 1, _, _, by omega, by go_num, ?_, h, ?_⟩
  · rw [List.map_append, he, List.take_succ_eq_append_getElem hj]; rfl
  · have hb3 := (hb.trans (hb1.mono hb.size)).trans (h2.mono (Nat.le_trans hb.size hb1.size))
    exact hb3.grown hg hb3.size (fun k hk => (hr.own.lt k hk).1)
theorem ent_ones (x : Ent) : ∀ u ∈ x.cells, u.oneCell' = true := by
  intro u hu
  simp [Ent.cells] at hu
  rcases hu with rfl | rfl | rfl | rfl | rfl <;> rfl

set_option maxHeartbeats 1000000 in
theorem copyAll_step (l : List V) (hk : ∀ i (h : i < l.length), CopySaid l[i]) : CopyAllSaid l := by
  intro A cap w hl hn hat
  have HK := fun (i : Nat) (h : i < l.length) (A' : Option Addr) (c : Nat) (w' : World) (hat' : Vs.at_ w' 0 w'.heap.size (l[i]).kids A') => hk i h A' c w' (by have := Vs.nodes_get i h; omega) hat'
  have HC := Lib.hid HK
  have HA := Lib.hid hat
  clear HK hk hat
  go_enter Tryd.func73, Tryd.ntmps73
  go_wp2_with fail
  go_loopw [3, 4] (fun o i wr => CpRel l w o i wr) (fun _ i _ => l.length - (intOf i).toNat)
  case atStart => exact ⟨0, [], [], Nat.zero_le _, rfl, rfl, RowOf.none (own_empty w _ _), (Below.refl _ _).alloc (Nat.le_refl _) _⟩
  case round =>
    obtain ⟨j, es, G, hj, rfl, he, hr, hb⟩ := hrel
    have hel : es.length = j := by have := congrArg List.length he; simpa [Nat.min_eq_left hj] using this
    have HE := Lib.hid he
    have HR := Lib.hid hr
    have HEL := Lib.hid hel
    clear he hr hel
    by_cases hlt : j < l.length
    · obtain ⟨b, off, A', cap', rfl, g1, g2, g3, ⟨c0, c1, c2, c3, c4⟩, g5⟩ := Vs.at_get j hlt (Vs.at_below HA.out hb (Nat.le_refl _))
      go_wp2_with fail
      refine (HC.out j hlt A' cap' _ (Vs.at_more (Nat.le_refl _) hb.size _ _ g5)).mono ?_
      rintro e w1 ⟨A2, c2', F, rfl, hc2, hl2, hnd2, hF2, hb1⟩
      have hr1 := (HR.out.below (Nat.le_refl _) hb1).own
      have hbw := hb.trans (hb1.mono hb.size)
      have hcn := cells_new w1 (Ent.cells (l[j], A2, c2')).toArray 28
      have HO := Lib.hid hr1
      have HN := Lib.hid hcn
      have HL2 := Lib.hid hl2
      have HND := Lib.hid hnd2
      have HF2 := Lib.hid hF2
      have hsmall : es.length ≤ 1048576 := by have := HEL.out; omega
      clear c0 c1 c2 c3 c4 hr1 hcn hl2 hnd2 hF2
      unfold V.agg
      go_wp2_with (at_builtin; refine wpList_app2 rfl (.tmp 12) (.tmp 18) 26 rfl w.heap.size 28 Tryd.underlying26 infoV rfl (by decide) rfl (HO.out.alloc _) (Nat.le_trans hbw.size (by simp)) _ 1 1 (Ent.cells (l[j], A2, c2')) rfl rfl HN.out (ent_ones _) (by unfold maxLen; omega) (by omega) ?_; intro v' w' hown' hg' hv')
      go_roundw
      case rel => exact cp_next hlt HE.out HR.out hb hc2 HL2.out HND.out HF2.out hb1 ((Below.refl _ w1).alloc (Nat.le_refl _) _) hown' hg' hv'
      case measure => simp [intOf]; omega
    · obtain rfl : j = l.length := by omega
      have HLL := Lib.hid (HR.out.lies)
      go_wp2_with fail
      go_ret
      obtain ⟨A2, c2, F, rfl, h2, h3, h4, h5⟩ := HLL.out
      rw [HE.out, List.take_length] at h3
      have h6 := HEL.out
      exact ⟨A2, c2, F, by rw [← h6]; rfl, by omega, h3, h4, h5, hb⟩

set_option maxHeartbeats 1000000 in
theorem copy_step (v : V) (hk : CopyAllSaid v.kids) : CopySaid v := by
  intro A cap w hn hat
  rw [V.nodes_eq] at hn
  have hl : v.kids.length ≤ 1048576 := by have := Vs.len_nodes v.kids; omega
  have HK := fun (c : Nat) (w' : World) (hat' : Vs.at_ w' 0 w'.heap.size v.kids A) => hk A c w' hl (by omega) hat'
  have HC := Lib.hid HK
  have HA := Lib.hid hat
  clear HK hk hat
  unfold V.agg
  go_enter Tryd.func45, Tryd.ntmps45
  go_wp2_with fail
  obtain ⟨w2, hw2⟩ : ∃ w2, w2 = ((w.alloc (.cells #[.int .i64 v.k, .int .i64 v.n, .int .i64 v.e, .string v.s, .slice A v.kids.length cap] 28)).alloc (.cells #[.int .i64 0, .int .i64 0, .int .i64 0, .string ⟨#[]⟩, .slice none 0 0] 28)).alloc (.cells #[.int .i64 v.k, .int .i64 v.n, .int .i64 v.e, .string v.s, .slice A v.kids.length cap] 28) := ⟨_, rfl⟩
  have z2 : w2.heap.size = w.heap.size + 3 := by rw [hw2]; simp
  have b2 : Below w.heap.size w w2 := by rw [hw2]; exact (((Below.refl _ w).alloc (Nat.le_refl _) _).alloc (by simp) _).alloc (by simp; omega) _
  have B1 : Blk w2 (w.heap.size + 1) 28 #[.int .i64 0, .int .i64 0, .int .i64 0, .string ⟨#[]⟩, .slice none 0 0] := by
    have h := (Blk.new (w.alloc (.cells #[.int .i64 v.k, .int .i64 v.n, .int .i64 v.e, .string v.s, .slice A v.kids.length cap] 28)) 28 #[.int .i64 0, .int .i64 0, .int .i64 0, .string ⟨#[]⟩, .slice none 0 0]).alloc (.cells #[.int .i64 v.k, .int .i64 v.n, .int .i64 v.e, .string v.s, .slice A v.kids.length cap] 28)
    rw [← hw2] at h
    simpa using h
  have B2 : Blk w2 (w.heap.size + 2) 28 #[.int .i64 v.k, .int .i64 v.n, .int .i64 v.e, .string v.s, .slice A v.kids.length cap] := by
    have h := Blk.new ((w.alloc (.cells #[.int .i64 v.k, .int .i64 v.n, .int .i64 v.e, .string v.s, .slice A v.kids.length cap] 28)).alloc (.cells #[.int .i64 0, .int .i64 0, .int .i64 0, .string ⟨#[]⟩, .slice none 0 0] 28)) 28 #[.int .i64 v.k, .int .i64 v.n, .int .i64 v.e, .string v.s, .slice A v.kids.length cap]
    rw [← hw2] at h
    simpa using h
  rw [← hw2]
  clear hw2
  refine (HC.out _ w2 (Vs.at_more (Nat.le_refl _) b2.size _ _ (Vs.at_below HA.out b2 (Nat.le_refl _)))).mono ?_
  rintro e w3 ⟨A', c', F, rfl, hc', hl3, hnd, hF, hb3⟩
  have B13 := B1.below hb3 (by omega)
  have B23 := B2.below hb3 (by omega)
  have hbw := b2.trans (hb3.mono b2.size)
  have z3 : w.heap.size + 3 ≤ w3.heap.size := by have := hb3.size; omega
  obtain ⟨p0, p1, p2, p3, p4⟩ := B13.five
  obtain ⟨q0, q1, q2, q3, q4⟩ := B23.five
  have f0 := B13.frozen 0
  have f1 := B13.frozen 1
  have f2 := B13.frozen 2
  have f3 := B13.frozen 3
  have f4 := B13.frozen 4
  have g4 := B23.frozen 4
  have HL := Lib.hid hl3
  have HND := Lib.hid hnd
  have HF := Lib.hid hF
  have HB := Lib.hid hbw
  clear hl3 hnd hF hbw hb3 b2 B1 B2 B13 B23
  go_wp2_with fail
  refine bodyPost_ret (v := .agg #[.int .i64 v.k, .int .i64 v.n, .int .i64 v.e, .string v.s, .slice A' v.kids.length c']) (by simp [results, Tryd.results45, go_sem, p0, p1, p2, p3, p4, q0, q1, q2, q3]) rfl ⟨A', c', F, rfl, hc', Vs.lies_same HL.out ⟨by simp, fun c hc => ?_⟩, HND.out, fun c hc => by have := HF.out c hc; omega, ?_⟩
  · have h1 : c ≠ w.heap.size + 1 := by have := HF.out c hc; omega
    have h2 : c ≠ w.heap.size + 2 := by have := HF.out c hc; omega
    simp only [Below.heap_setCell _ (⟨w.heap.size + 1, _, none⟩ : Addr) _ _ (show c ≠ _ from h1), Below.heap_setCell _ (⟨w.heap.size + 2, _, none⟩ : Addr) _ _ (show c ≠ _ from h2)]
  · repeat (refine Below.setCell ?_ (by simp; try omega) _)
    exact HB.out

theorem copy_all : ∀ (N : Nat), (∀ l : List V, Vs.nodes l ≤ N → CopyAllSaid l) := by
  intro N
  induction N with
  | zero =>
    intro l h
    refine copyAll_step l fun i hi => ?_
    have h1 := Vs.nodes_get i hi
    have h2 := V.nodes_pos l[i]
    omega
  | succ N ih =>
    intro l h
    refine copyAll_step l fun i hi => copy_step _ (ih _ ?_)
    have h1 := Vs.nodes_get i hi
    rw [V.nodes_eq] at h1
    omega
theorem specCopy (v : V) : CopySaid v := copy_step v (copy_all _ _ (Nat.le_refl _))
end Go.Proofs.YtcjamnfboifjeaaDoor

/-
  The program's copy of a value, own: the same tree in new memory, each row in a block of its own.
-/
namespace Go.Proofs.YtcjamnfboifjeaaDoor
open Go.RowKit
set_option linter.unusedVariables false
set_option linter.unusedSimpArgs false

/-- What the program's copying loop has laid. -/
def OwRel (v : V) (w : World) (o i : Value) (wr : World) : Prop :=
  ∃ (j : Nat) (es : List Ent) (G : List Nat), j ≤ v.kids.length ∧ i = .int .i64 j ∧ es.map (·.1) = v.kids.take j ∧ RowOf wr (w.heap.size + 2) o es G ∧ Below w.heap.size w wr ∧ w.heap.size + 2 ≤ wr.heap.size
theorem ow_next {v : V} {w wr w1 w' : World} {j : Nat} {es : List Ent} {G F : List Nat} {o v' : Value} (hj : j < v.kids.length) (he : es.map (·.1) = v.kids.take j) (hr : RowOf wr (w.heap.size + 2) o es G) (hb : Below w.heap.size w wr) (hz : w.heap.size + 2 ≤ wr.heap.size) {A : Option Addr} {c : Nat}
    (hc : (v.kids[j]).kids.length ≤ c) (hl : Vs.lies w1 (v.kids[j]).kids A F) (hnd : F.Nodup) (hF : ∀ x ∈ F, wr.heap.size ≤ x) (hb1 : Below wr.heap.size wr w1) {w2 : World} (h2 : Below w1.heap.size w1 w2)
    (hown' : w'.ownsRow (w.heap.size + 2) 28 5 v' (es.length + 1) (flat es ++ Ent.cells (v.kids[j], A, c))) (hg : w2.grownBy w' o.ownBlock) (hv : v'.ownBlock = o.ownBlock ∨ v'.ownBlock = some w2.heap.size) :
    OwRel v w v' (.int .i64 ((j : Int) + 1)) w' := by
  have hr1 := hr.below (Nat.le_refl _) hb1
  have hlt := hr.lt
  have h := hr1.push hc hl hnd (fun x hx => Nat.le_trans hz (hF x hx)) (fun x hx hG => by have := hlt x hG; have := hF x hx; omega)
    (fun g hg' hx => by have := (hr.own.lt g hg').2; have := hF g hx; omega) h2 hown' hg hv
  refine ⟨j + 1, _, _, by omega, by go_num, ?_, h, ?_, Nat.le_trans hz (Nat.le_trans hb1.size (Nat.le_trans h2.size hg.size))⟩
  · rw [List.map_append, he, List.take_succ_eq_append_getElem hj]; rfl
  · have hb3 := (hb.trans (hb1.mono hb.size)).trans (h2.mono (Nat.le_trans hb.size hb1.size))
    exact hb3.grown hg hb3.size (fun k hk => by have := (hr.own.lt k hk).1; omega)
theorem own_up {w : World} {base base' e size n : Nat} {v : Value} {xs : List Value} (h : w.ownsRow base e size v n xs) (hb : ∀ g, v.ownBlock = some g → base' ≤ g) : w.ownsRow base' e size v n xs := by
  refine ⟨h.1, ?_⟩
  rcases h.2 with h' | ⟨g, c, cur, rfl, h1, h2⟩
  · exact .inl h'
  · exact .inr ⟨g, c, cur, rfl, hb g rfl, h2⟩

def OwnSaid (v : V) : Prop := ∀ (A : Option Addr) (cap : Nat) (w : World), v.nodes ≤ 1048577 → Vs.at_ w 0 w.heap.size v.kids A →
    Calls Tryd.prog 48 #[v.agg A cap] w (Copied v w)

set_option maxHeartbeats 2000000 in
theorem own_step (v : V) (hk : ∀ i (h : i < v.kids.length), OwnSaid v.kids[i]) : OwnSaid v := by
  intro A cap w hn hat
  rw [V.nodes_eq] at hn
  have hl : v.kids.length ≤ 1048576 := by have := Vs.len_nodes v.kids; omega
  have HK := fun (i : Nat) (h : i < v.kids.length) (A' : Option Addr) (c : Nat) (w' : World) (hat' : Vs.at_ w' 0 w'.heap.size (v.kids[i]).kids A') => hk i h A' c w' (by have := Vs.nodes_get i h; omega) hat'
  have HC := Lib.hid HK
  have HA := Lib.hid hat
  clear HK hk hat
  obtain ⟨i0, hi, hz0, hz1, hz2⟩ := info_parts infoV
  unfold V.agg
  by_cases h0 : v.kids.length = 0
  · have HZ := Lib.hid h0
    have he : ((v.kids.length : Int) == 0) = true := by simp [h0]
    clear h0
    go_enter Tryd.func48, Tryd.ntmps48
    go_wp2_with fail
    refine bodyPost_ret (v := .agg #[.int .i64 v.k, .int .i64 v.n, .int .i64 v.e, .string v.s, .slice none v.kids.length 0]) (by rw [HZ.out]; simp [results, Tryd.results48, go_sem]) rfl ⟨none, 0, [], rfl, by rw [HZ.out]; exact Nat.le_refl _, .inl ⟨List.eq_nil_of_length_eq_zero HZ.out, rfl⟩, List.nodup_nil, (fun c h => by cases h), ?_⟩
    repeat (refine Below.setCell ?_ (by simp; try omega) _)
    exact ((Below.refl _ w).alloc (Nat.le_refl _) _).alloc (by simp) _
  · have he : ((v.kids.length : Int) == 0) = false := by rw [beq_eq_false_iff_ne]; omega
    clear h0
    go_enter Tryd.func48, Tryd.ntmps48
    go_wp2_with (at_make; refine wpList_make_own _ rfl _ _ 26 rfl w.heap.size 28 i0 _ 5 Tryd.underlying26 hi hz0 hz1 _ _ _ v.kids.length rfl rfl (by omega) ?b1 ?b2 ?b3 ?_)
    case b1 => rw [hz2]; omega
    case b2 => unfold maxLen; omega
    case b3 => simp only [World.size_alloc]; omega
    intro w1 hown1 hg1
    have b1 : Below (w.heap.size + 2) ((w.alloc (.cells #[.int .i64 v.k, .int .i64 v.n, .int .i64 v.e, .string v.s, .slice A v.kids.length cap] 28)).alloc (.cells #[.int .i64 0, .int .i64 0, .int .i64 0, .string ⟨#[]⟩, .slice none 0 0] 28)) w1 := by
      have h := (Below.refl _ ((w.alloc (.cells #[.int .i64 v.k, .int .i64 v.n, .int .i64 v.e, .string v.s, .slice A v.kids.length cap] 28)).alloc (.cells #[.int .i64 0, .int .i64 0, .int .i64 0, .string ⟨#[]⟩, .slice none 0 0] 28))).grown hg1 (Nat.le_refl _) (fun k h => by cases h)
      simpa using h
    have z1 : w.heap.size + 2 ≤ w1.heap.size := by have := b1.size; simpa using this
    have B0 : Blk w1 w.heap.size 28 #[.int .i64 v.k, .int .i64 v.n, .int .i64 v.e, .string v.s, .slice A v.kids.length cap] := ((Blk.new w _ _).alloc _).below b1 (by omega)
    have B1 : Blk w1 (w.heap.size + 1) 28 #[.int .i64 0, .int .i64 0, .int .i64 0, .string ⟨#[]⟩, .slice none 0 0] := by
      have h := Blk.new (w.alloc (.cells #[.int .i64 v.k, .int .i64 v.n, .int .i64 v.e, .string v.s, .slice A v.kids.length cap] 28)) 28 #[.int .i64 0, .int .i64 0, .int .i64 0, .string ⟨#[]⟩, .slice none 0 0]
      have h2 : Blk ((w.alloc (.cells #[.int .i64 v.k, .int .i64 v.n, .int .i64 v.e, .string v.s, .slice A v.kids.length cap] 28)).alloc (.cells #[.int .i64 0, .int .i64 0, .int .i64 0, .string ⟨#[]⟩, .slice none 0 0] 28)) (w.heap.size + 1) 28 #[.int .i64 0, .int .i64 0, .int .i64 0, .string ⟨#[]⟩, .slice none 0 0] := by simpa using h
      exact h2.below b1 (by omega)
    have bw : Below w.heap.size w w1 := (((Below.refl _ w).alloc (Nat.le_refl _) _).alloc (by simp) _).trans (b1.mono (by omega))
    have own2 : w1.ownsRow (w.heap.size + 2) 28 5 (.slice (some ⟨w.heap.size + 1 + 1, 0, none⟩) 0 v.kids.length) 0 [] := own_up hown1 (fun g h => by simp [Value.ownBlock] at h; omega)
    obtain ⟨q0, q1, q2, q3, q4⟩ := B0.five
    have HB1 := Lib.hid b1
    have HBW := Lib.hid bw
    have HO1 := Lib.hid own2
    have HB0 := Lib.hid B0
    have HBB := Lib.hid B1
    clear hown1 hg1 b1 bw own2 B0 B1
    go_wp2_with fail
    go_loopw [3, 19] (fun o i wr => OwRel v w o i wr ∧ Blk wr w.heap.size 28 #[.int .i64 v.k, .int .i64 v.n, .int .i64 v.e, .string v.s, .slice A v.kids.length cap] ∧ Blk wr (w.heap.size + 1) 28 #[.int .i64 0, .int .i64 0, .int .i64 0, .string ⟨#[]⟩, .slice none 0 0]) (fun _ i _ => v.kids.length - (intOf i).toNat)
    case atStart => exact ⟨⟨0, [], [], Nat.zero_le _, rfl, rfl, RowOf.none HO1.out, HBW.out, z1⟩, HB0.out, HBB.out⟩
    case round =>
      obtain ⟨⟨j, es, G, hj, rfl, he2, hr, hb, hz⟩, B0, B1⟩ := hrel
      have hel : es.length = j := by have := congrArg List.length he2; simpa [Nat.min_eq_left hj] using this
      have HE := Lib.hid he2
      have HR := Lib.hid hr
      have HEL := Lib.hid hel
      have HB0 := Lib.hid B0
      have HBB := Lib.hid B1
      clear he2 hr hel B0 B1 q0 q1 q2 q3 q4
      by_cases hlt : j < v.kids.length
      · obtain ⟨b, off, A', cap', rfl, g1, g2, g3, ⟨c0, c1, c2, c3, c4⟩, g5⟩ := Vs.at_get j hlt (Vs.at_below HA.out hb (Nat.le_refl _))
        go_wp2_with fail
        refine (HC.out j hlt A' cap' _ (Vs.at_more (Nat.le_refl _) (by simp; omega) _ _ (Vs.at_alloc g5 hb.size _))).mono ?_
        rintro e w1 ⟨A2, c2', F, rfl, hc2, hl2, hnd2, hF2, hb1⟩
        have hb1' : Below wr.heap.size wr w1 := ((Below.refl _ wr).alloc (Nat.le_refl _) _).trans (hb1.mono (by simp))
        have hF2' : ∀ x ∈ F, wr.heap.size ≤ x := fun x hx => by have := hF2 x hx; simp at this; omega
        have hr1 := (HR.out.below (Nat.le_refl _) hb1').own
        have hbw := hb.trans (hb1'.mono hb.size)
        have hcn := cells_new w1 (Ent.cells (v.kids[j], A2, c2')).toArray 28
        have hz1 : w.heap.size + 2 ≤ w1.heap.size := Nat.le_trans hz hb1'.size
        have HO := Lib.hid hr1
        have HN := Lib.hid hcn
        have HL2 := Lib.hid hl2
        have HND := Lib.hid hnd2
        have HF2 := Lib.hid hF2'
        have HB0' := Lib.hid (HB0.out.below hb1' (by omega))
        have HBB' := Lib.hid (HBB.out.below hb1' (by omega))
        have hsmall : es.length ≤ 1048576 := by have := HEL.out; omega
        clear c0 c1 c2 c3 c4 hr1 hcn hl2 hnd2 hF2 hF2' hb1
        unfold V.agg
        go_wp2_with (at_builtin; refine wpList_app2 rfl (.tmp 23) (.tmp 26) 26 rfl (w.heap.size + 2) 28 Tryd.underlying26 infoV rfl (by decide) rfl (HO.out.alloc _) (Nat.le_trans hz1 (by simp)) _ 1 1 (Ent.cells (v.kids[j], A2, c2')) rfl rfl HN.out (ent_ones _) (by unfold maxLen; omega) (by omega) ?_; intro v' w' hown' hg' hv')
        have hB2 : Below (w.heap.size + 2) w1 w' := Below.grown ((Below.refl _ w1).alloc hz1 _) hg' (Nat.le_trans hz1 (by simp)) (fun k hk => (HO.out.lt k hk).1)
        go_roundw
        case rel => exact ⟨ow_next hlt HE.out HR.out hb hz hc2 HL2.out HND.out HF2.out hb1' ((Below.refl _ w1).alloc (Nat.le_refl _) _) hown' hg' hv', HB0'.out.below hB2 (by omega), HBB'.out.below hB2 (by omega)⟩
        case measure => simp [intOf]; omega
      · obtain rfl : j = v.kids.length := by omega
        obtain ⟨A2, c2, F, rfl, h2, h3, h4, h5⟩ := HR.out.lies
        rw [HE.out, List.take_length] at h3
        have h6 := HEL.out
        obtain ⟨q0, q1, q2, q3, q4⟩ := HB0.out.five
        obtain ⟨p0, p1, p2, p3, p4⟩ := HBB.out.five
        have k4 := HB0.out.frozen 4
        have f0 := HBB.out.frozen 0
        have f1 := HBB.out.frozen 1
        have f2 := HBB.out.frozen 2
        have f3 := HBB.out.frozen 3
        have f4 := HBB.out.frozen 4
        have HL := Lib.hid h3
        have HND := Lib.hid h4
        have HF := Lib.hid h5
        have HB := Lib.hid hb
        have H6 := Lib.hid h6
        have hc6 : v.kids.length ≤ c2 := by omega
        clear h3 h4 h5 h6 hb h2
        go_wp2_with fail
        refine bodyPost_ret (v := .agg #[.int .i64 v.k, .int .i64 v.n, .int .i64 v.e, .string v.s, .slice A2 es.length c2]) (by simp [results, Tryd.results48, go_sem, p0, p1, p2, p3, p4, q0, q1, q2, q3]) rfl ⟨A2, c2, F, by rw [H6.out]; rfl, hc6, Vs.lies_same HL.out ⟨by simp, fun c hc => ?_⟩, HND.out, fun c hc => by have := HF.out c hc; omega, ?_⟩
        · have h1 : c ≠ w.heap.size + 1 := by have := HF.out c hc; omega
          have h2 : c ≠ w.heap.size := by have := HF.out c hc; omega
          simp only [Below.heap_setCell _ (⟨w.heap.size + 1, _, none⟩ : Addr) _ _ (show c ≠ _ from h1), Below.heap_setCell _ (⟨w.heap.size, _, none⟩ : Addr) _ _ (show c ≠ _ from h2)]
        · repeat (refine Below.setCell ?_ (by simp; try omega) _)
          exact HB.out
theorem implOwn (v : V) : OwnSaid v := V.all own_step v
end Go.Proofs.YtcjamnfboifjeaaDoor

/-
  impl.sorted.
-/
namespace Go.Proofs.YtcjamnfboifjeaaDoor
open Go.RowKit
set_option linter.unusedVariables false
set_option linter.unusedSimpArgs false
set_option maxRecDepth 100000

def SrtSaid (v : V) : Prop := ∀ (A : Option Addr) (cap : Nat) (w : World), v.nodes ≤ 1048577 → V.fitM v → Vs.at_ w 0 w.heap.size v.kids A →
    Calls Tryd.prog 49 #[v.agg A cap] w (Copied v.srt w)
/-- What the loop has laid. -/
def SrRel (v : V) (A : Option Addr) (cap : Nat) (w : World) (i : Value) (wr : World) : Prop :=
  ∃ (j : Nat) (es : List Ent) (G : List Nat) (oA : Option Addr) (oc : Nat), i = .int .i64 (j : Int) ∧ j ≤ v.kids.length ∧ Hid (es.map (·.1) = (v.kids.take j).map V.srt) ∧ Hid (RowOf wr (w.heap.size + 3) (.slice oA es.length oc) es G) ∧ Hid (Blk wr w.heap.size 28 #[.int .i64 v.k, .int .i64 v.n, .int .i64 v.e, .string v.s, .slice A v.kids.length cap]) ∧ Hid (Blk wr (w.heap.size + 1) 28 #[.int .i64 0, .int .i64 0, .int .i64 0, .string ⟨#[]⟩, .slice none 0 0]) ∧ Hid (Blk wr (w.heap.size + 2) 28 #[.int .i64 v.k, .int .i64 v.n, .int .i64 v.e, .string v.s, .slice oA es.length oc]) ∧ Hid (Below w.heap.size w wr) ∧ Hid (w.heap.size + 3 ≤ wr.heap.size)
theorem sr_far {w wr w6 w7 w8 : World} {o : Value} {es : List Ent} {G : List Nat} (hr : RowOf wr (w.heap.size + 3) o es G) (h6 : Below wr.heap.size wr w6) (h7 : Below w6.heap.size w6 w7) (hg : w7.grownBy w8 o.ownBlock)
    {p : Nat} {cs : Array Value} (hp : p < w.heap.size + 3) (hB : Blk wr p 28 cs) : Blk w8 p 28 cs := by
  have e2 := (hB.below h6 hB.lt)
  have e3 := e2.below h7 e2.lt
  exact (hg.block _ e3.lt fun e => by have := (hr.own.lt _ e.symm).1; omega).trans e3
theorem SrRel.next {v : V} {A : Option Addr} {cap : Nat} {w wr w6 w7 w8 : World} {j : Nat} {es : List Ent} {G F : List Nat} {oA A2 : Option Addr} {oc g c2 c : Nat} (hj : j < v.kids.length) (he : es.map (·.1) = (v.kids.take j).map V.srt)
    (hr : RowOf wr (w.heap.size + 3) (.slice oA es.length oc) es G) (hB0 : Blk wr w.heap.size 28 #[.int .i64 v.k, .int .i64 v.n, .int .i64 v.e, .string v.s, .slice A v.kids.length cap]) (hB1 : Blk wr (w.heap.size + 1) 28 #[.int .i64 0, .int .i64 0, .int .i64 0, .string ⟨#[]⟩, .slice none 0 0]) (hB2 : Blk wr (w.heap.size + 2) 28 #[.int .i64 v.k, .int .i64 v.n, .int .i64 v.e, .string v.s, .slice oA es.length oc])
    (hW : Below w.heap.size w wr) (hS : w.heap.size + 3 ≤ wr.heap.size) (hc : (v.kids[j]).srt.kids.length ≤ c) (hl : Vs.lies w6 (v.kids[j]).srt.kids A2 F) (hnd : F.Nodup) (hF : ∀ x ∈ F, wr.heap.size ≤ x)
    (h6 : Below wr.heap.size wr w6) (h7 : Below w6.heap.size w6 w7) (hown' : w8.ownsRow (w.heap.size + 3) 28 5 (.slice (some ⟨g, 0, none⟩) (es.length + 1) c2) (es.length + 1) (flat es ++ Ent.cells ((v.kids[j]).srt, A2, c)))
    (hg : w7.grownBy w8 (Value.slice oA es.length oc).ownBlock) (hat : (Value.slice oA es.length oc).ownBlock = some g ∨ g = w7.heap.size) :
    SrRel v A cap w (.int .i64 ((j : Int) + 1)) (w8.setCell ⟨w.heap.size + 2, 4, none⟩ (.slice (some ⟨g, 0, none⟩) (es.length + 1) c2)) := by
  have hlt := hr.lt
  have f0 := sr_far hr h6 h7 hg (by omega) hB0
  have f1 := sr_far hr h6 h7 hg (by omega) hB1
  have f2 := sr_far hr h6 h7 hg (by omega) hB2
  have r2 := (hr.below (Nat.le_refl _) h6).push hc hl hnd (fun x hx => Nat.le_trans hS (hF x hx)) (fun x hx hG => by have := hlt x hG; have := hF x hx; omega)
    (fun g hg' hx => by have := (hr.own.lt g hg').2; have := hF g hx; omega) h7 hown' hg (by
      rcases hat with e | e
      · exact .inl e.symm
      · exact .inr (by rw [← e]; rfl))
  have z6 := h6.size
  have z7 := h7.size
  have z8 := hg.size
  have r3 := r2.gr (Gr.set (w.heap.size + 2) w8 4 (.slice (some ⟨g, 0, none⟩) (es.length + 1) c2)) (by omega)
  have hle : (es ++ [((v.kids[j]).srt, A2, c)]).length = es.length + 1 := by simp
  refine ⟨j + 1, es ++ [((v.kids[j]).srt, A2, c)], G ++ F, some ⟨g, 0, none⟩, c2, by go_num, hj, Lib.hid ?_, Lib.hid (by rw [hle]; exact r3), Lib.hid ?_, Lib.hid ?_, Lib.hid ?_, Lib.hid ?_, Lib.hid (by simp; omega)⟩
  · rw [List.map_append, he, List.take_succ_eq_append_getElem hj, List.map_append]; rfl
  · exact ((Gr.set (w.heap.size + 2) w8 4 _).block _ f0.lt (fun e => by injection e with e; omega)).trans f0
  · exact ((Gr.set (w.heap.size + 2) w8 4 _).block _ f1.lt (fun e => by injection e with e; omega)).trans f1
  · have h := f2.set 4 (.slice (some ⟨g, 0, none⟩) (es.length + 1) c2)
    rw [hle]
    simpa using h
  · exact (((hW.trans (h6.mono (by omega))).trans (h7.mono (by omega))).grown hg (by omega) (fun k hk => by have := (hr.own.lt k hk).1; omega)).setCell (by show w.heap.size ≤ w.heap.size + 2; omega) _
theorem sr_end {v : V} {w wr : World} {oA : Option Addr} {oc : Nat} {es : List Ent} {G : List Nat} {base : Nat} (he : v.srt = .mk v.k v.n v.e v.s (es.map (·.1))) (hr : RowOf wr base (.slice oA es.length oc) es G) (hb : w.heap.size ≤ base) (hW : Below w.heap.size w wr) :
    Copied v.srt w (.returned (.agg #[.int .i64 v.k, .int .i64 v.n, .int .i64 v.e, .string v.s, .slice oA es.length oc])) wr := by
  obtain ⟨A, c, F, e, h1, h2, h3, h4⟩ := hr.lies
  injection e with e1 e2 e3
  subst e1 e3
  refine ⟨oA, oc, F, ?_, ?_, ?_, h3, fun x hx => Nat.le_trans hb (h4 x hx), hW⟩
  · rw [he]
    simp [V.agg, V.k, V.n, V.e, V.s, V.kids]
  · rw [he]
    simpa [V.kids] using h1
  · rw [he]
    exact h2
theorem sr_map {v : V} {w wr w2 w9 : World} {oA A2 : Option Addr} {oc cA n : Nat} {es : List Ent} {G : List Nat} {Z : List PEnt} (hf : mapFit v) (h8 : v.k = 8) (he : es.map (·.1) = v.kids.map V.srt)
    (hr : RowOf wr (w.heap.size + 3) (.slice oA es.length oc) es G) (hS : w.heap.size + 3 ≤ wr.heap.size) (hZ : Z.Perm (pairsL es)) (hp : Z.Pairwise kle) (hn : n = Z.length) (hs : ∀ c ∈ G, w9.heap[c]? = wr.heap[c]?) (hsz : wr.heap.size ≤ w9.heap.size) (hw2 : wr.heap.size ≤ w2.heap.size)
    (ho : w9.ownsRow (w2.heap.size + 2) 28 5 (.slice A2 (2 * n) cA) (2 * n) (flatP Z)) (hW : Below w.heap.size w w9) :
    Copied v.srt w (.returned (.agg #[.int .i64 8, .int .i64 0, .int .i64 0, .string ⟨#[]⟩, .slice A2 (2 * n) cA])) w9 := by
  obtain ⟨hl, hev, _, _, hn0, he0, hs0⟩ := hf h8
  have hlen : es.length = v.kids.length := by have := congrArg List.length he; simpa using this
  have hL : (entsP Z).length = 2 * n := by rw [entsP_len, hn]
  have ho' : w9.ownsRow w.heap.size 28 5 (.slice A2 (2 * n) cA) (2 * n) (flatP Z) := own_up ho (fun g hg => by have := (ho.lt g hg).1; omega)
  rw [← hL] at ho'
  obtain ⟨G', hr'⟩ := sorted_row hr (by omega) hZ hs hsz (fun c hc => by have := hr.low c hc; omega) ho' (fun g hg hG => by
    have h1 := (ho'.lt g hg).1
    have h2 : w2.heap.size + 2 ≤ g := (ho.lt g (by rw [hL] at hg; exact hg)).1
    have := hr.lt g hG
    omega)
  have e : v.srt = .mk v.k v.n v.e v.s ((entsP Z).map (·.1)) := by rw [V.srt_eq, if_pos h8, (fit_keys hf h8 he).2 Z hZ hp]
  have h := sr_end e hr' (Nat.le_refl _) hW
  rw [h8, hn0, he0, hs0, hL] at h
  exact h
set_option maxHeartbeats 4000000 in
theorem srt_step (v : V) (hk : ∀ i (h : i < v.kids.length), SrtSaid v.kids[i]) : SrtSaid v := by
  intro A cap w hn hfit hat
  rw [V.nodes_eq] at hn
  have hl : v.kids.length ≤ 1048576 := by have := Vs.len_nodes v.kids; omega
  have HK := fun (i : Nat) (h : i < v.kids.length) (A' : Option Addr) (c : Nat) (w' : World) hf (hat' : Vs.at_ w' 0 w'.heap.size (v.kids[i]).kids A') => hk i h A' c w' (by have := Vs.nodes_get i h; omega) hf hat'
  have HC := Lib.hid HK
  have HA := Lib.hid hat
  have HF := Lib.hid hfit
  clear HK hk hat hfit
  unfold V.agg
  go_enter Tryd.func49, Tryd.ntmps49
  go_wp2_with fail
  obtain ⟨i0, hi, hz0, hz1, hz2⟩ := info_parts infoV
  go_loopw [12] (fun i wr => SrRel v A cap w i wr) (fun i _ => v.kids.length - (intOf i).toNat)
  case atStart =>
    refine ⟨0, [], [], none, 0, rfl, Nat.zero_le _, Lib.hid rfl, Lib.hid (RowOf.none ⟨rfl, .inl ⟨rfl, rfl⟩⟩), Lib.hid (((Blk.new w _ _).alloc _).alloc _), Lib.hid ?_, Lib.hid ?_, Lib.hid ((((Below.refl _ w).alloc (Nat.le_refl _) _).alloc (by simp) _).alloc (by simp; omega) _), Lib.hid (by simp)⟩
    · have h := (Blk.new (w.alloc (.cells #[.int .i64 v.k, .int .i64 v.n, .int .i64 v.e, .string v.s, .slice A v.kids.length cap] 28)) 28 #[.int .i64 0, .int .i64 0, .int .i64 0, .string ⟨#[]⟩, .slice none 0 0]).alloc (.cells #[.int .i64 v.k, .int .i64 v.n, .int .i64 v.e, .string v.s, .slice none 0 0] 28)
      simpa using h
    · have h := Blk.new ((w.alloc (.cells #[.int .i64 v.k, .int .i64 v.n, .int .i64 v.e, .string v.s, .slice A v.kids.length cap] 28)).alloc (.cells #[.int .i64 0, .int .i64 0, .int .i64 0, .string ⟨#[]⟩, .slice none 0 0] 28)) 28 #[.int .i64 v.k, .int .i64 v.n, .int .i64 v.e, .string v.s, .slice none 0 0]
      simpa using h
  case round =>
    obtain ⟨j, es, G, oA, oc, rfl, hj, HE, HR, HB0, HB1, HB2, HW, HS⟩ := hrel
    by_cases hlt : j < v.kids.length
    · have hlt2 : (j : Int) < (v.kids.length : Int) := by omega
      have HFK : (v.kids[j]).fitM := fit_get HF.out j hlt
      obtain ⟨b, off, A', cap', rfl, g1, g2, g3, ⟨c0, c1, c2, c3, c4⟩, g5⟩ := Vs.at_get j hlt (Vs.at_below HA.out HW.out (Nat.le_refl _))
      go_upto_region 6 with fail
      generalize hw5 : wr.alloc _ = w5
      have HQ : Blk w5 wr.heap.size 28 #[.int .i64 v.kids[j].k, .int .i64 v.kids[j].n, .int .i64 v.kids[j].e, .string v.kids[j].s, .slice A' v.kids[j].kids.length cap'] := by rw [← hw5]; exact Blk.new wr 28 _
      have H5 : Hid (Below wr.heap.size wr w5) := Lib.hid (by rw [← hw5]; exact (Below.refl _ _).alloc (Nat.le_refl _) _)
      have hz5 : wr.heap.size < w5.heap.size := HQ.lt
      obtain ⟨y0, y1, y2, y3, y4⟩ := HQ.five
      have B5 : Hid (Blk w5 (w.heap.size + 1 + 1) 28 #[.int .i64 v.k, .int .i64 v.n, .int .i64 v.e, .string v.s, .slice oA es.length oc]) := Lib.hid (HB2.out.below H5.out (by have := HS.out; omega))
      have b4 := (B5.out.five).2.2.2.2
      have HK5 := Lib.hid (fun (W : World) (h : W = w5.drew) => (HC.out j hlt A' cap' W HFK (by rw [h]; exact Vs.at_drew (Vs.at_more (Nat.le_refl _) (by have := HW.out.size; have := H5.out.size; show w.heap.size ≤ w5.heap.size; omega) _ _ (Vs.at_below g5 H5.out HW.out.size)))))
      have hel : es.length ≤ 1048576 := by have := congrArg List.length HE.out; simp at this; omega
      clear c0 c1 c2 c3 c4 HQ hw5
      unfold V.agg at HK5
      go_region_law (first
        | (refine step_append_lies _ (by rfl) (.tmp 17) (.tmp 20) 26 (by rfl) (w.heap.size + 3) 28 i0 _ 5 64 Tryd.underlying26 hi hz0 hz1 hz2 (by rfl) (by omega) (.slice oA es.length oc) es.length (flat es) (by rfl) (HO.out.alloc _) ⟨w6.heap.size, 0, none⟩ 1 1 (Ent.cells (v.kids[j].srt, A2, c2)) (by rfl) (by rfl) HN.out (ent_ones _) (by omega) (by unfold maxLen; omega) (by omega) (by simp; omega) _ rfl ?_
           intro g c' w8 hown' hgr hat' hlt'
           have B8 := Lib.hid (sr_far HR.out H6.out ((Below.refl _ _).alloc (Nat.le_refl _) _) hgr (by omega) HB2.out)
           have q4 : w8.cell? ⟨w.heap.size + 1 + 1, 4, none⟩ = _ := (B8.out.five).2.2.2.2
           have e8 : w8.frozen? ⟨w.heap.size + 1 + 1, 4, none⟩ = false := B8.out.frozen 4)
        | (go_simp
           go_at_call 49
           refine (HK5.out _ rfl).mono ?_
           rintro e w6 ⟨A2, c2, F, rfl, hc2, hl2, hnd2, hF2, hb1⟩
           have H6 := Lib.hid (Below.trans H5.out ((((Below.refl _ w5).drew).trans hb1).mono (Nat.le_of_lt hz5)))
           have HO := Lib.hid (own_below HR.out.own H6.out)
           have HN := Lib.hid (cells_new w6 (Ent.cells (v.kids[j].srt, A2, c2)).toArray 28)
           have HL2 := Lib.hid hl2
           have HND := Lib.hid hnd2
           have HF2 : Hid (∀ x ∈ F, wr.heap.size ≤ x) := Lib.hid (fun x hx => by have := hF2 x hx; have : w5.drew.heap.size = w5.heap.size := rfl; omega)
           have hz6 : w.heap.size + 3 ≤ w6.heap.size := by have := HS.out; have := H6.out.size; omega
           have B6 : Hid (Blk w6 (w.heap.size + 1 + 1) 28 #[.int .i64 v.k, .int .i64 v.n, .int .i64 v.e, .string v.s, .slice oA es.length oc]) := Lib.hid (HB2.out.below H6.out (by have := HS.out; omega))
           have q4 := (B6.out.five).2.2.2.2
           have hq6 : w.heap.size + 1 + 1 < w6.heap.size := by omega
           clear hl2 hnd2 hF2 hb1
           unfold V.agg))
      all_goals
        go_wp2_with fail
        go_roundw
        case rel => exact SrRel.next hlt HE.out HR.out HB0.out HB1.out HB2.out HW.out HS.out hc2 HL2.out HND.out (fun x hx => HF2.out x hx) H6.out ((Below.refl _ _).alloc (Nat.le_refl _) _) hown' hgr hat'
        case measure => simp [intOf]; omega
    · obtain rfl : j = v.kids.length := by omega
      have HE2 : Hid (es.map (·.1) = v.kids.map V.srt) := Lib.hid (by have := HE.out; rwa [List.take_length] at this)
      obtain ⟨q0, q1, q2, q3, q4⟩ := Blk.five (g := w.heap.size + 1 + 1) HB2.out
      have a0 := (HB0.out.five).1
      obtain ⟨p0, p1, p2, p3, p4⟩ := HB1.out.five
      have f0 := HB1.out.frozen 0
      have f1 := HB1.out.frozen 1
      have f2 := HB1.out.frozen 2
      have f3 := HB1.out.frozen 3
      have f4 := HB1.out.frozen 4
      by_cases h8 : v.k = 8
      · have he8 : (v.k == 8) = true := by simpa using h8
        have H8 := Lib.hid h8
        have HMF := Lib.hid (((V.fitM_eq v).1 HF.out).1)
        have hlen : es.length = v.kids.length := by have := congrArg List.length HE2.out; simpa using this
        have hes9 : es.length ≤ 900 := by have := (HMF.out h8).1; omega
        have hev : es.length % 2 = 0 := by have := (HMF.out h8).2.1; omega
        have HEV := Lib.hid hev
        have HLN := Lib.hid hlen
        have hcell : ∀ q, q < es.length * 5 → ∃ g0, oA = some ⟨g0, 0, none⟩ ∧ g0 < wr.heap.size ∧ wr.cell? ⟨g0, q, none⟩ = (flat es)[q]? := fun q hq => by
          have ho := HR.out.own
          rcases ho.2 with ⟨e, h0⟩ | ⟨g0, cap0, cur, e, h1, h2, h3⟩
          · omega
          · injection e with e1 e2 e3
            subst e1
            exact ⟨g0, rfl, (ho.lt g0 rfl).2, ho.cellAt q (by omega)⟩
        have HP := Lib.hid (pairsOf v oA oc es wr hes9 hcell)
        clear h8 hcell hev hlen
        go_upto_region 9 with fail
        clear he8
        go_wp2_with fail
        refine HP.out.mono ?_
        rintro e w1 ⟨A1, d1, rfl, hp1, hp2⟩
        have HP1 := Lib.hid hp1
        have HP2 := Lib.hid hp2
        clear hp1 hp2
        have hz1 : wr.heap.size + 1 ≤ w1.heap.size + 1 := by have := HP2.out.size; omega
        have HFK := Lib.hid (fit_keys HMF.out H8.out HE2.out)
        have HSP := Lib.hid (sortPairs HP1.out (pairsL_len es).symm (by omega) HFK.out.1)
        go_upto_region 10 with fail
        go_wp2_with fail
        refine HSP.out.mono ?_
        rintro e w2 ⟨rfl, Z, z1, z2, z3, z4⟩
        have HZ1 := Lib.hid z1
        have HZ2 := Lib.hid z2
        have HZ3 := Lib.hid z3
        have HZ4 := Lib.hid z4
        clear z1 z2 z3 z4
        have HZN : Hid (es.length / 2 = Z.length) := Lib.hid (by rw [HZ1.out.length_eq, pairsL_len])
        have HMP := Lib.hid (mapPairs (w := w2) (c := d1) HZN.out (by omega) HZ3.out)
        have hS := HS.out
        have hzw : wr.heap.size ≤ w1.heap.size := HP2.out.size
        have hz12 : w1.heap.size ≤ w2.heap.size := HZ4.out.size
        go_upto_region 11 with fail
        clear q0 q1 q2 q3 q4 p0 p1 p2 p3 p4 f0 f1 f2 f3 f4 a0
        go_wp2_with fail
        refine HMP.out.mono ?_
        rintro e w3 ⟨A2, cA, rfl, ho3, hb3⟩
        have HO3 := Lib.hid ho3
        have H3 : Hid (Below wr.heap.size wr w3) := Lib.hid ((HP2.out.trans (HZ4.out.mono (by omega))).trans (hb3.mono (by omega)))
        have HB3 := Lib.hid (HB1.out.below H3.out (by omega))
        clear ho3 hb3
        obtain ⟨p0, p1, p2, p3, p4⟩ := HB3.out.five
        have f0 := HB3.out.frozen 0
        have f1 := HB3.out.frozen 1
        have f2 := HB3.out.frozen 2
        have f3 := HB3.out.frozen 3
        have f4 := HB3.out.frozen 4
        go_wp2_with fail
        have R : Blk (((((w3.setCell ⟨w.heap.size + 1, 0, none⟩ (.int .i64 8)).setCell ⟨w.heap.size + 1, 1, none⟩ (.int .i64 0)).setCell ⟨w.heap.size + 1, 2, none⟩ (.int .i64 0)).setCell ⟨w.heap.size + 1, 3, none⟩ (.string ⟨#[]⟩)).setCell ⟨w.heap.size + 1, 4, none⟩ (.slice A2 (2 * (es.length / 2)) cA)) (w.heap.size + 1) 28 #[.int .i64 8, .int .i64 0, .int .i64 0, .string ⟨#[]⟩, .slice A2 (2 * (es.length / 2)) cA] := by
          have h := ((((HB3.out.set 0 (.int .i64 8)).set 1 (.int .i64 0)).set 2 (.int .i64 0)).set 3 (.string ⟨#[]⟩)).set 4 (.slice A2 (2 * (es.length / 2)) cA)
          simpa using h
        have RG : Gr (w.heap.size + 1) w3 (((((w3.setCell ⟨w.heap.size + 1, 0, none⟩ (.int .i64 8)).setCell ⟨w.heap.size + 1, 1, none⟩ (.int .i64 0)).setCell ⟨w.heap.size + 1, 2, none⟩ (.int .i64 0)).setCell ⟨w.heap.size + 1, 3, none⟩ (.string ⟨#[]⟩)).setCell ⟨w.heap.size + 1, 4, none⟩ (.slice A2 (2 * (es.length / 2)) cA)) := by
          repeat (first | exact Gr.refl _ _ | (refine Gr.trans ?_ (Gr.set _ _ _ _)))
        generalize (((((w3.setCell ⟨w.heap.size + 1, 0, none⟩ (.int .i64 8)).setCell ⟨w.heap.size + 1, 1, none⟩ (.int .i64 0)).setCell ⟨w.heap.size + 1, 2, none⟩ (.int .i64 0)).setCell ⟨w.heap.size + 1, 3, none⟩ (.string ⟨#[]⟩)).setCell ⟨w.heap.size + 1, 4, none⟩ (.slice A2 (2 * (es.length / 2)) cA)) = w9 at R RG ⊢
        clear p0 p1 p2 p3 p4
        obtain ⟨c0, c1, c2, c3, c4⟩ := R.five
        have hsz3 := H3.out.size
        refine bodyPost_ret (v := .agg #[.int .i64 8, .int .i64 0, .int .i64 0, .string ⟨#[]⟩, .slice A2 (2 * (es.length / 2)) cA]) (by simp [results, Tryd.results49, go_sem, c0, c1, c2, c3, c4]) rfl (sr_map (w2 := w2) HMF.out H8.out HE2.out HR.out hS HZ1.out HZ2.out HZN.out (fun c hc => ?_) (by have := RG.size; omega) (by omega) (World.ownsRow.kept HO3.out RG (.inr (fun e => by have := (HO3.out.lt _ e).1; omega))) ((HW.out.trans (H3.out.mono HW.out.size)).grown RG (by omega) (fun k hk => by injection hk with hk; omega)))
        have h1 := HR.out.low c hc
        have h2 := HR.out.lt c hc
        exact (RG.block c (by omega) (fun e => by injection e with e; omega)).trans (H3.out.block c h2)
      · have he8 : (v.k == 8) = false := by simpa using h8
        have H8 := Lib.hid h8
        clear h8
        go_wp2_with fail
        have R : Blk (((((wr.setCell ⟨w.heap.size + 1, 0, none⟩ (.int .i64 v.k)).setCell ⟨w.heap.size + 1, 1, none⟩ (.int .i64 v.n)).setCell ⟨w.heap.size + 1, 2, none⟩ (.int .i64 v.e)).setCell ⟨w.heap.size + 1, 3, none⟩ (.string v.s)).setCell ⟨w.heap.size + 1, 4, none⟩ (.slice oA es.length oc)) (w.heap.size + 1) 28 #[.int .i64 v.k, .int .i64 v.n, .int .i64 v.e, .string v.s, .slice oA es.length oc] := by
          have h := ((((HB1.out.set 0 (.int .i64 v.k)).set 1 (.int .i64 v.n)).set 2 (.int .i64 v.e)).set 3 (.string v.s)).set 4 (.slice oA es.length oc)
          simpa using h
        have RG : Gr (w.heap.size + 1) wr (((((wr.setCell ⟨w.heap.size + 1, 0, none⟩ (.int .i64 v.k)).setCell ⟨w.heap.size + 1, 1, none⟩ (.int .i64 v.n)).setCell ⟨w.heap.size + 1, 2, none⟩ (.int .i64 v.e)).setCell ⟨w.heap.size + 1, 3, none⟩ (.string v.s)).setCell ⟨w.heap.size + 1, 4, none⟩ (.slice oA es.length oc)) := by
          repeat (first | exact Gr.refl _ _ | (refine Gr.trans ?_ (Gr.set _ _ _ _)))
        generalize (((((wr.setCell ⟨w.heap.size + 1, 0, none⟩ (.int .i64 v.k)).setCell ⟨w.heap.size + 1, 1, none⟩ (.int .i64 v.n)).setCell ⟨w.heap.size + 1, 2, none⟩ (.int .i64 v.e)).setCell ⟨w.heap.size + 1, 3, none⟩ (.string v.s)).setCell ⟨w.heap.size + 1, 4, none⟩ (.slice oA es.length oc)) = w9 at R RG ⊢
        clear q0 q1 q2 q3 q4 p0 p1 p2 p3 p4
        obtain ⟨c0, c1, c2, c3, c4⟩ := R.five
        refine bodyPost_ret (v := .agg #[.int .i64 v.k, .int .i64 v.n, .int .i64 v.e, .string v.s, .slice oA es.length oc]) (by simp [results, Tryd.results49, go_sem, c0, c1, c2, c3, c4]) rfl (sr_end (by rw [V.srt_eq, if_neg H8.out, HE2.out]) (HR.out.gr RG (by omega)) (by omega) (HW.out.grown RG (by have := HS.out; omega) (fun k hk => by injection hk with hk; omega)))
theorem implSorted0 : ∀ v, SrtSaid v := V.all srt_step
end Go.Proofs.YtcjamnfboifjeaaDoor

/-
  The reference's order of two numbers and of two texts.
-/
namespace Go.Proofs.YtcjamnfboifjeaaDoor
open Go.RowKit
set_option linter.unusedVariables false
set_option maxRecDepth 100000
set_option linter.unusedSimpArgs false

theorem specLess (a b : Int) (w : World) : Calls Tryd.prog 60 #[.int .i64 a, .int .i64 b] w fun e w' => e = .returned (.int .i64 (lessI a b)) ∧ w' = w := by
  by_cases h1 : a < b
  · have h := lessI_lt h1
    have H := Lib.hid h
    clear h
    go_enter Tryd.func60, Tryd.ntmps60
    go_wp2_with fail
    go_ret
    exact ⟨ret_num (by rw [H.out]), rfl⟩
  · by_cases h2 : b < a
    · have h := lessI_gt h2
      have H := Lib.hid h
      clear h
      go_enter Tryd.func60, Tryd.ntmps60
      go_wp2_with fail
      go_ret
      exact ⟨ret_num (by rw [H.out]), rfl⟩
    · obtain rfl : a = b := by omega
      have h := lessI_eq a
      have H := Lib.hid h
      clear h
      go_enter Tryd.func60, Tryd.ntmps60
      go_wp2_with fail
      go_ret
      exact ⟨ret_num (by rw [H.out]), rfl⟩

theorem specTexts (a b : ByteArray) (w : World) : Calls Tryd.prog 61 #[.string a, .string b] w fun e w' => e = .returned (.int .i64 (lessT a b)) ∧ w' = w := by
  by_cases h1 : Op.bytesLess a.toList b.toList = true
  · have h : lessT a b = -1 := by unfold lessT; rw [if_pos h1]
    have H := Lib.hid h
    clear h
    go_enter Tryd.func61, Tryd.ntmps61
    go_wp2_with fail
    go_ret
    exact ⟨ret_num (by rw [H.out]), rfl⟩
  · have h1' : Op.bytesLess a.toList b.toList = false := by simpa using h1
    by_cases h2 : (a.toList == b.toList) = true
    · have h : lessT a b = 0 := by unfold lessT; rw [if_neg h1, if_pos h2]
      have H := Lib.hid h
      clear h h1
      go_enter Tryd.func61, Tryd.ntmps61
      go_wp2_with fail
      go_ret
      exact ⟨ret_num (by rw [H.out]), rfl⟩
    · have h : lessT a b = 1 := by unfold lessT; rw [if_neg h1, if_neg h2]
      have h2' : (a.toList == b.toList) = false := by simpa using h2
      have H := Lib.hid h
      clear h h1 h2
      go_enter Tryd.func61, Tryd.ntmps61
      go_wp2_with fail
      go_ret
      exact ⟨ret_num (by rw [H.out]), rfl⟩
end Go.Proofs.YtcjamnfboifjeaaDoor

/-
  The reference's Compare.
-/
namespace Go.Proofs.YtcjamnfboifjeaaDoor
open Go.RowKit
set_option linter.unusedVariables false
set_option maxRecDepth 100000
set_option linter.unusedSimpArgs false

def SpecCmpSaid (a : V) : Prop := ∀ (b : V) (A B : Option Addr) (ca cb : Nat) (w : World), a.nodes ≤ 1048577 → b.nodes ≤ 1048577 → Vs.at_ w 0 w.heap.size a.kids A → Vs.at_ w 0 w.heap.size b.kids B →
    Calls Tryd.prog 18 #[a.agg A ca, b.agg B cb] w fun e w' => e = .returned (.int .i64 (V.cmp a b)) ∧ Below w.heap.size w w'

/-- The two values lie in their blocks. -/
def TwoIn (w : World) (a b : V) (A B : Option Addr) (ca cb : Nat) (wr : World) : Prop :=
  Blk wr w.heap.size 28 #[.int .i64 a.k, .int .i64 a.n, .int .i64 a.e, .string a.s, .slice A a.kids.length ca] ∧
  Blk wr (w.heap.size + 1) 28 #[.int .i64 b.k, .int .i64 b.n, .int .i64 b.e, .string b.s, .slice B b.kids.length cb] ∧ Below w.heap.size w wr

set_option maxHeartbeats 4000000 in
theorem specCmp_step (a : V) (hk : ∀ i (h : i < a.kids.length), SpecCmpSaid a.kids[i]) : SpecCmpSaid a := by
  intro b A B ca cb w hn hm hat hbt
  rw [V.nodes_eq] at hn hm
  have hl : a.kids.length ≤ 1048576 := by have := Vs.len_nodes a.kids; omega
  have hl2 : b.kids.length ≤ 1048576 := by have := Vs.len_nodes b.kids; omega
  have HK := fun (i : Nat) (h : i < a.kids.length) (h2 : i < b.kids.length) (A' B' : Option Addr) (c c' : Nat) (w' : World) (h1 : Vs.at_ w' 0 w'.heap.size (a.kids[i]).kids A') (h2' : Vs.at_ w' 0 w'.heap.size (b.kids[i]).kids B') => hk i h b.kids[i] A' B' c c' w' (by have := Vs.nodes_get i h; omega) (by have := Vs.nodes_get i h2; omega) h1 h2'
  have HC := Lib.hid HK
  clear HK hk
  have HA := Lib.hid hat
  have HB := Lib.hid hbt
  have HF := Lib.hid (orN_first (ordAt a b) 5)
  have HZ := Lib.hid (orN_zero (ordAt a b) 5)
  clear hat hbt
  unfold V.agg
  go_enter Tryd.func18, Tryd.ntmps18
  go_wp2_with fail
  obtain ⟨w2, hw2, Ba, Bb, b1, z2⟩ := two_new w 28 28 #[.int .i64 a.k, .int .i64 a.n, .int .i64 a.e, .string a.s, .slice A a.kids.length ca] #[.int .i64 b.k, .int .i64 b.n, .int .i64 b.e, .string b.s, .slice B b.kids.length cb]
  rw [← hw2]
  clear hw2
  obtain ⟨p0, p1, p2, p3, p4⟩ := Ba.five
  obtain ⟨q0, q1, q2, q3, q4⟩ := Bb.five
  refine wp_region_still_tail 27 (by kernel_rfl) (by kernel_rfl) ?_
  simp only [List.take_succ_cons, List.take_zero, List.drop_succ_cons, List.drop_zero]
  still_step; still_step; still_step; still_step
  still_call (specLess _ _ _)
  still_step; still_step; still_step; still_step
  still_call (specLess _ _ _)
  still_step; still_step; still_step; still_step
  still_call (specLess _ _ _)
  still_step; still_step; still_step; still_step
  still_call (specTexts _ _ _)
  still_step; still_step; still_step; still_step; still_step; still_step
  still_call (specLess _ _ _)
  refine wpStill_nil ?_
  change wpList _ _ _ _ _ w2.drew
  clear p0 p1 p2 p3 p4 q0 q1 q2 q3 q4
  have BO : Blk (w2.alloc (.cells (ordCells a b) 3)).drew w2.heap.size 3 (ordCells a b) := (Blk.new w2 _ _).drew
  have TW : TwoIn w a b A B ca cb (w2.alloc (.cells (ordCells a b) 3)).drew := ⟨(Ba.alloc _).drew, (Bb.alloc _).drew, (b1.alloc b1.size _).drew⟩
  clear Ba Bb b1
  go_wp2_with fail
  go_loopw [6] (fun i wr => ∃ j : Nat, j ≤ 5 ∧ i = .int .i64 j ∧ (∀ k, k < j → ordAt a b k = 0) ∧ Blk wr (w.heap.size + 2) 3 (ordCells a b) ∧ TwoIn w a b A B ca cb wr) (fun i _ => 5 - (intOf i).toNat)
  case atStart => exact ⟨0, Nat.zero_le _, rfl, fun k hk => by omega, by rw [← z2]; exact BO, TW⟩
  case round =>
    obtain ⟨j, hj, rfl, hz, BO2, TW2⟩ := hrel
    clear BO TW
    have HH := Lib.hid hz
    clear hz
    by_cases hlt : j < 5
    · have c0 := ordCells_at BO2 j hlt
      by_cases h0 : ordAt a b j = 0
      · have H0 := Lib.hid h0
        rw [h0] at c0
        clear h0
        go_wp2_with fail
        go_roundw
        case rel => exact ⟨j + 1, by omega, by go_num, fun k hk => by
          by_cases hk2 : k = j
          · subst hk2; exact H0.out
          · exact HH.out k (by omega), BO2, TW2⟩
        case measure => simp [intOf]; omega
      · go_wp2_with fail
        go_ret
        have h1 := HF.out j HH.out hlt h0
        exact ⟨ret_num (by rw [V.cmp_ord (a := a) (b := b) (by unfold V.ord; rw [h1]; exact h0)]; unfold V.ord; rw [h1]), TW2.2.2⟩
    · obtain rfl : j = 5 := by omega
      rw [show ((5 : Nat) : Int) = 5 from rfl]
      have hz0 : V.ord a b = 0 := HZ.out HH.out
      have hlen := V.ord_len hz0
      have HL := Lib.hid hlen
      have HQ := Lib.hid (V.cmp_zero hz0)
      have HS := Lib.hid (Vs.cmp_first a.kids b.kids)
      have HN := Lib.hid (Vs.cmp_none a.kids b.kids)
      clear HH HF HZ hz0 hlen BO2
      go_wp2_with fail
      go_loopw [7, 8] (fun i _ wr => ∃ j : Nat, j ≤ a.kids.length ∧ i = .int .i64 j ∧ (∀ k (h1 : k < a.kids.length) (h2 : k < b.kids.length), k < j → V.cmp a.kids[k] b.kids[k] = 0) ∧ TwoIn w a b A B ca cb wr) (fun i _ _ => a.kids.length - (intOf i).toNat)
      case atStart => exact ⟨0, Nat.zero_le _, rfl, fun k _ _ hk => by omega, TW2⟩
      case round =>
        obtain ⟨j, hj, rfl, hz, Ba, Bb, hb⟩ := hrel
        have HH := Lib.hid hz
        clear hz TW2
        by_cases hlt : j < a.kids.length
        · have hlt2 : j < b.kids.length := by have := HL.out; omega
          have a4 : wr.cell? ⟨w.heap.size, 4, none⟩ = some (.slice A a.kids.length ca) := Ba.cell 4
          have b4 : wr.cell? ⟨w.heap.size + 1, 4, none⟩ = some (.slice B b.kids.length cb) := Bb.cell 4
          obtain ⟨g, off, A', cap', rfl, g1, g2, g3, ⟨c0, c1, c2, c3, c4⟩, g5⟩ := Vs.at_get j hlt (Vs.at_below HA.out hb (Nat.le_refl _))
          obtain ⟨g', off2, A2', cap2', rfl, g12, g22, g32, ⟨d0, d1, d2, d3, d4⟩, g52⟩ := Vs.at_get j hlt2 (Vs.at_below HB.out hb (Nat.le_refl _))
          have HJ := Lib.hid (HS.out j hlt hlt2 HH.out)
          go_wp2_with fail
          go_still_tail 10, (by kernel_rfl)
          change wpList _ _ _ _ _ wr.drew
          go_wp2_with fail
          refine (HC.out j hlt hlt2 A' A2' cap' cap2' wr.drew (Vs.at_more (Nat.le_refl _) hb.size _ _ (Vs.at_drew g5)) (Vs.at_more (Nat.le_refl _) hb.size _ _ (Vs.at_drew g52))).mono ?_
          rintro e w1 ⟨rfl, hb1⟩
          have hbw : Below w.heap.size w w1 := hb.drew.trans (hb1.mono hb.size)
          have hz1 : w.heap.size + 1 < wr.heap.size := Bb.lt
          have TW3 : TwoIn w a b (some ⟨g, off, none⟩) (some ⟨g', off2, none⟩) ca cb w1 := ⟨(Ba.drew).below hb1 (by show w.heap.size < wr.heap.size; omega), (Bb.drew).below hb1 hz1, hbw⟩
          clear c0 c1 c2 c3 c4 d0 d1 d2 d3 d4 a4 b4
          by_cases h0 : V.cmp a.kids[j] b.kids[j] = 0
          · have H0 := Lib.hid h0
            rw [h0]
            clear h0
            go_wp2_with fail
            go_roundw
            case rel => exact ⟨j + 1, by omega, by go_num, fun k h1 h2 hk => by
              by_cases hk2 : k = j
              · subst hk2; exact H0.out
              · exact HH.out k h1 h2 (by omega), TW3⟩
            case measure => simp [intOf]; omega
          · go_wp2_with fail
            go_ret
            exact ⟨ret_num (by rw [HQ.out, HJ.out h0]), hbw⟩
        · obtain rfl : j = a.kids.length := by omega
          have a4 : wr.cell? ⟨w.heap.size, 4, none⟩ = some (.slice A a.kids.length ca) := Ba.cell 4
          go_wp2_with fail
          go_ret
          exact ⟨ret_num (by rw [HQ.out]; exact (HN.out fun k h1 h2 => HH.out k h1 h2 h1).symm), hb⟩
theorem specCmp (a : V) : SpecCmpSaid a := V.all specCmp_step a
end Go.Proofs.YtcjamnfboifjeaaDoor
