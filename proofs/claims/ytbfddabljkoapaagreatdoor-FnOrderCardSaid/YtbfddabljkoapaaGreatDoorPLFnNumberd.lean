/-
  The texts on which the last one leans, part 4: DrawR, DrawN, DrawM, DrawA, RightS, PutSignS, GetSign, SignsS.
-/
import Derived.Test.YtbfddabljkoapaaGreatDoorPLFnNumberc
import Derived.Deep.RegionLaw
import Derived.Deep.AppendLies
import Derived.Deep.CutRange
import Derived.BigQuiet
import Derived.Deep.RegionHeld3
/-
  The draws of values: the rows that a drawn value's kids lie in.
-/
namespace Go.Proofs.YtbfddabljkoapaaGreatDoor
open Go.RowKit
set_option linter.unusedVariables false
set_option linter.unusedSimpArgs false
set_option maxRecDepth 100000

theorem Calls.atW {P : Program} {f : Nat} {args : Array Value} {Q : Ending → World → Prop} {W : World} (I : World → Prop) (h : I W) (k : ∀ w, I w → Calls P f args w Q) : Calls P f args W Q := k W h
theorem Cur.drew {w : World} {b : Nat} {A : Option Addr} {cap : Nat} {code : List UInt8} (h : Cur w b A cap code) : Cur w.drew b A cap code := h.below ((Below.refl w.heap.size w).drew) h.lt
theorem Drawn.drew {a w : World} {b : Nat} {A : Option Addr} {cap : Nat} {code : List UInt8} (h : Drawn a b A cap code w) : Drawn a b A cap code w.drew := ⟨h.1.drew, h.2.drew⟩
theorem Drawn.undrew {w w' : World} {b : Nat} {A : Option Addr} {cap : Nat} {code : List UInt8} (h : Drawn w.drew b A cap code w') : Drawn w b A cap code w' := ⟨h.1, ((Gr.refl b w).drew).trans h.2⟩
theorem RowOf.gr {w w' : World} {base : Nat} {o : Value} {es : List Ent} {G : List Nat} {b : Nat} (h : RowOf w base o es G) (hg : Gr b w w') (hb : b < base) : RowOf w' base o es G :=
  ⟨own_gr h.own hg hb, kidsLie_same es G h.kids ⟨hg.size, fun c hc => hg.block c (h.lt c hc) (by intro e; injection e with e; have := h.low c hc; omega)⟩, h.nodup, h.low, h.apart⟩
/-- Values appended. -/
theorem RowOf.pushN {w w1 w' : World} {base : Nat} {o v' : Value} {es xs : List Ent} {G F : List Nat} (h : RowOf w base o es G) (hl : kidsLie w xs F)
    (hnd : F.Nodup) (hF : ∀ x ∈ F, base ≤ x) (hFG : ∀ x ∈ F, x ∉ G) (hFo : ∀ g, o.ownBlock = some g → g ∉ F) (h1 : Below w.heap.size w w1)
    (hown' : w'.ownsRow base 43 5 v' (es.length + xs.length) (flat es ++ flat xs)) (hg : w1.grownBy w' o.ownBlock) (hv : v'.ownBlock = o.ownBlock ∨ v'.ownBlock = some w1.heap.size) :
    RowOf w' base v' (es ++ xs) (G ++ F) := by
  have hlt := h.lt
  have hFl : ∀ x ∈ F, x < w.heap.size := kidsLie_lt xs F hl
  have same : ∀ x, x < w.heap.size → (∀ g, o.ownBlock = some g → x ≠ g) → w'.heap[x]? = w.heap[x]? := fun x hx hn => by
    rw [hg.block x (Nat.lt_of_lt_of_le hx h1.size) (fun e => hn x e.symm rfl), h1.block x hx]
  have hsz : w.heap.size ≤ w'.heap.size := Nat.le_trans h1.size hg.size
  refine ⟨?_, kidsLie_append _ _ _ _ (kidsLie_same es G h.kids ⟨hsz, fun x hx => same x (hlt x hx) (fun g hg' e => h.apart g hg' (e ▸ hx))⟩) (kidsLie_same xs F hl ⟨hsz, fun x hx => same x (hFl x hx) (fun g hg' e => hFo g hg' (e ▸ hx))⟩), ?_, ?_, ?_⟩
  · rw [List.length_append, flat_append]; exact hown'
  · exact List.nodup_append.2 ⟨h.nodup, hnd, fun a ha b hb e => hFG b hb (e ▸ ha)⟩
  · intro x hx
    rcases List.mem_append.1 hx with hx | hx
    · exact h.low x hx
    · exact hF x hx
  · intro g hg' hx
    have hgl : g < w.heap.size := by
      rcases List.mem_append.1 hx with hx | hx
      · exact hlt g hx
      · exact hFl g hx
    rcases hv with e | e
    · rw [e] at hg'
      rcases List.mem_append.1 hx with hx | hx
      · exact h.apart g hg' hx
      · exact hFo g hg' hx
    · rw [e] at hg'
      injection hg' with hg'
      have := h1.size
      omega
theorem ent_ones' (x : Ent) : ∀ u ∈ x.cells, u.oneCell' = true := by
  intro u hu
  simp [Ent.cells] at hu
  rcases hu with rfl | rfl | rfl | rfl | rfl <;> rfl

/-- A value under way: its block, its kids' row. -/
def MkAt (w : World) (b p : Nat) (A : Option Addr) (cap : Nat) (code : List UInt8) (kd : Int) (es : List Ent) (oA : Option Addr) (oc : Nat) (wr : World) : Prop :=
  ∃ G, Blk wr p 43 #[.int .i64 kd, .int .i64 0, .int .i64 0, .string ⟨#[]⟩, .slice oA es.length oc] ∧ RowOf wr (p + 1) (.slice oA es.length oc) es G ∧ Drawn w b A cap code wr
theorem MkAt.blk {w wr : World} {b p : Nat} {A : Option Addr} {cap : Nat} {code : List UInt8} {kd : Int} {es : List Ent} {oA : Option Addr} {oc : Nat} (h : MkAt w b p A cap code kd es oA oc wr) :
    Blk wr p 43 #[.int .i64 kd, .int .i64 0, .int .i64 0, .string ⟨#[]⟩, .slice oA es.length oc] := by
  obtain ⟨G, h1, _⟩ := h
  exact h1
theorem MkAt.drawn {w wr : World} {b p : Nat} {A : Option Addr} {cap : Nat} {code : List UInt8} {kd : Int} {es : List Ent} {oA : Option Addr} {oc : Nat} (h : MkAt w b p A cap code kd es oA oc wr) : Drawn w b A cap code wr := by
  obtain ⟨G, _, _, h3⟩ := h
  exact h3
theorem MkAt.own {w wr w1 : World} {b p : Nat} {A : Option Addr} {cap : Nat} {code : List UInt8} {kd : Int} {es : List Ent} {oA : Option Addr} {oc : Nat} (h : MkAt w b p A cap code kd es oA oc wr) (hg : Gr b wr w1) (hb : b < p) :
    w1.ownsRow (p + 1) 43 5 (.slice oA es.length oc) es.length (flat es) := by
  obtain ⟨G, _, h2, _⟩ := h
  exact own_gr h2.own hg (by omega)
theorem MkAt.start {w wr : World} {b p : Nat} {A : Option Addr} {cap : Nat} {code : List UInt8} {kd : Int} (h1 : Blk wr p 43 #[.int .i64 kd, .int .i64 0, .int .i64 0, .string ⟨#[]⟩, .slice none 0 0]) (h2 : Drawn w b A cap code wr) : MkAt w b p A cap code kd [] none 0 wr :=
  ⟨[], h1, RowOf.none ⟨rfl, .inl ⟨rfl, rfl⟩⟩, h2⟩
theorem MkAt.gr {w wr w1 : World} {b p : Nat} {A : Option Addr} {cap : Nat} {code : List UInt8} {kd : Int} {es : List Ent} {oA : Option Addr} {oc : Nat} (h : MkAt w b p A cap code kd es oA oc wr) (hb : b < p) (hd : Drawn wr b A cap code w1) : MkAt w b p A cap code kd es oA oc w1 := by
  obtain ⟨G, h1, h2, h3⟩ := h
  exact ⟨G, res_cells h1 (by omega) hd.2, h2.gr hd.2 (by omega), h3.trans hd⟩
theorem MkAt.below {w wr w1 : World} {b p : Nat} {A : Option Addr} {cap : Nat} {code : List UInt8} {kd : Int} {es : List Ent} {oA : Option Addr} {oc : Nat} (h : MkAt w b p A cap code kd es oA oc wr) (hb : b < p) (hd : Below wr.heap.size wr w1) : MkAt w b p A cap code kd es oA oc w1 :=
  h.gr hb (Drawn.of h.drawn.1 hd)
/-- Behind an append: the value's block is as it was. -/
theorem MkAt.far {w wr w1 w2 w' : World} {b p : Nat} {A : Option Addr} {cap : Nat} {code : List UInt8} {kd : Int} {es : List Ent} {oA : Option Addr} {oc : Nat} (h : MkAt w b p A cap code kd es oA oc wr) (hb : b < p) (hd1 : Drawn wr b A cap code w1) (h2 : Below w1.heap.size w1 w2)
    (hg : w2.grownBy w' (Value.slice oA es.length oc).ownBlock) : Blk w' p 43 #[.int .i64 kd, .int .i64 0, .int .i64 0, .string ⟨#[]⟩, .slice oA es.length oc] := by
  obtain ⟨G, h3, h4, h5⟩ := h
  have e1 := res_cells h3 (by omega) hd1.2
  have e2 := e1.below h2 e1.lt
  refine (hg.block p e2.lt fun e => ?_).trans e2
  have := (h4.own.lt p e.symm).1
  omega
/-- A round: values appended, the row stored. -/
theorem MkAt.next {w wr w1 w2 w' : World} {b p : Nat} {A : Option Addr} {cap : Nat} {code : List UInt8} {kd : Int} {es xs : List Ent} {F : List Nat} {oA : Option Addr} {oc g c' : Nat}
    (hm : MkAt w b p A cap code kd es oA oc wr) (hb : b < w.heap.size) (hp : w.heap.size ≤ p) (hl : kidsLie w1 xs F) (hnd : F.Nodup) (hF : ∀ x ∈ F, wr.heap.size ≤ x) (hd1 : Drawn wr b A cap code w1) (h2 : Below w1.heap.size w1 w2)
    (hown' : w'.ownsRow (p + 1) 43 5 (.slice (some ⟨g, 0, none⟩) (es.length + xs.length) c') (es.length + xs.length) (flat es ++ flat xs)) (hg : w2.grownBy w' (Value.slice oA es.length oc).ownBlock) (hat : (Value.slice oA es.length oc).ownBlock = some g ∨ g = w2.heap.size) :
    MkAt w b p A cap code kd (es ++ xs) (some ⟨g, 0, none⟩) c' (w'.setCell ⟨p, 4, none⟩ (.slice (some ⟨g, 0, none⟩) (es.length + xs.length) c')) := by
  have hfar := hm.far (by omega) hd1 h2 hg
  obtain ⟨G, h3, h4, h5⟩ := hm
  have hpl := h3.lt
  have r1 := h4.gr hd1.2 (by omega)
  have hlt := h4.lt
  have r2 := r1.pushN hl hnd (fun x hx => by have := hF x hx; omega) (fun x hx hG => by have := hlt x hG; have := hF x hx; omega)
    (fun g hg' hx => by have := (h4.own.lt g hg').2; have := hF g hx; omega) h2 hown' hg (by
      rcases hat with e | e
      · exact .inl e.symm
      · exact .inr (by rw [← e]; rfl))
  refine ⟨G ++ F, ?_, ?_, ?_⟩
  · have h := hfar.set 4 (.slice (some ⟨g, 0, none⟩) (es.length + xs.length) c')
    rw [List.length_append]
    simpa using h
  · rw [List.length_append]
    exact r2.gr (Gr.set p w' 4 _) (by omega)
  · have hB : Below w.heap.size w2 w' := ⟨hg.os, hg.tape, hg.output, hg.size, fun k hk => hg.block k (by have := h5.2.size; have := hd1.2.size; have := h2.size; omega) (fun e => by have := (h4.own.lt k e.symm).1; omega)⟩
    have hz : w.heap.size ≤ w1.heap.size := Nat.le_trans h5.2.size hd1.2.size
    exact drawn_over (h5.trans hd1) hb (((h2.mono hz).trans hB).setCell (by show w.heap.size ≤ p; exact hp) _)
/-- The kids of a value that is made. -/
theorem MkAt.lies {w wr : World} {b p : Nat} {A : Option Addr} {cap : Nat} {code : List UInt8} {kd : Int} {es : List Ent} {oA : Option Addr} {oc : Nat} (h : MkAt w b p A cap code kd es oA oc wr) :
    ∃ F, es.length ≤ oc ∧ Vs.lies wr (es.map (·.1)) oA F ∧ F.Nodup ∧ ∀ x ∈ F, p < x := by
  obtain ⟨G, h1, h2, h3⟩ := h
  obtain ⟨A', c, F, e, k1, k2, k3, k4⟩ := h2.lies
  injection e with e1 e2 e3
  subst e1 e3
  exact ⟨F, k1, k2, k3, fun x hx => by have := k4 x hx; omega⟩
end Go.Proofs.YtbfddabljkoapaaGreatDoor

/-
  The draws of values: a value with kids.
-/
namespace Go.Proofs.YtbfddabljkoapaaGreatDoor
open Go.RowKit
set_option linter.unusedVariables false
set_option linter.unusedSimpArgs false
set_option maxRecDepth 100000

def WK : Nat → Nat
  | 0 => 20
  | d + 1 => 36 + 3 * WK d
theorem WK_ge : ∀ d, 20 ≤ WK d
  | 0 => Nat.le_refl _
  | d + 1 => by simp only [WK]; omega
theorem WK_up (d : Nat) : WK (d + 1) = 36 + 3 * WK d := rfl
theorem WK_le (d : Nat) (h : d ≤ 3) : WK d ≤ 1008 := by
  match d, h with
  | 0, _ => decide
  | 1, _ => decide
  | 2, _ => decide
  | 3, _ => decide
def MkSaid (d : Nat) : Prop := ∀ (plain : Bool) (b : Nat) (A : Option Addr) (cap : Nat) (code : List UInt8) (w : World), Cur w b A cap code →
    Calls Tryz.prog 153 #[.pointer (some ⟨b, 0, none⟩), .int .i64 (d : Int), .bool plain] w fun e w' => DV (WK d) w w b A cap code e w'
/-- Behind stores into one's own block. -/
theorem DV.gr {K : Nat} {w w1 W : World} {b : Nat} {A : Option Addr} {cap : Nat} {code : List UInt8} {k n x : Int} {s : ByteArray} {es : List Ent} {B : Option Addr} {c : Nat} {G : List Nat} {p base : Nat} {e : Ending} (he : e = .returned ((V.mk k n x s (es.map (·.1))).agg B c))
    (hf : (V.mk k n x s (es.map (·.1))).fits) (hw : (V.mk k n x s (es.map (·.1))).weight ≤ K) (hr : RowOf w1 base (.slice B es.length c) es G) (hbase : p < base) (hp : w.heap.size ≤ p) (hd : Drawn w b A cap code w1) (hb : b < w.heap.size) (hg : Gr p w1 W) : DV K w w b A cap code e W :=
  ⟨k, n, x, s, es, B, c, G, he, hf, hw, (hr.gr hg hbase).down (by omega), drawn_over hd hb (hg.toBelow hp hd.2.size)⟩
/-- A row laid as one new block. -/
theorem rows_lies {w : World} (es : List Ent) {F : List Nat} (h : kidsLie w es F) : Vs.lies (w.alloc (.cells (flat es).toArray 43)) (es.map (·.1)) (some ⟨w.heap.size, 0, none⟩) (w.heap.size :: F) := by
  have hB := Blk.new w 43 (flat es).toArray
  refine .inr ⟨w.heap.size, F, rfl, rfl, by simp, fun q => hB.frozen q, kidsLie_cells es 0 F (fun q hq => ?_) (kidsLie_same es F h ⟨by simp, fun c hc => Below.heap_alloc w _ c (kidsLie_lt es F h c hc)⟩)⟩
  rw [Nat.zero_add, hB.cell q, List.getElem?_toArray]
theorem rows_nodup {w : World} (es : List Ent) {F : List Nat} (h : kidsLie w es F) (hn : F.Nodup) : (w.heap.size :: F).Nodup :=
  List.nodup_cons.2 ⟨fun hx => by have := kidsLie_lt es F h _ hx; omega, hn⟩
theorem row_fresh {w : World} (es : List Ent) {F : List Nat} {base : Nat} (h : kidsLie w es F) (hn : F.Nodup) (hes : es.length ≤ 1000) (hF : ∀ x ∈ F, base ≤ x) (hb : base ≤ w.heap.size) : RowOf (w.alloc (.cells (flat es).toArray 43)) base (.slice (some ⟨w.heap.size, 0, none⟩) es.length es.length) es F := by
  refine ⟨⟨flat_len es, .inr ⟨w.heap.size, es.length, (flat es).toArray, rfl, hb, Blk.new w 43 (flat es).toArray, Nat.le_refl _, by unfold maxLen; omega, by rw [List.size_toArray, flat_len], by rw [← flat_len]; simp⟩⟩, kidsLie_same es F h ⟨by simp, fun c hc => Below.heap_alloc w _ c (kidsLie_lt es F h c hc)⟩, hn, hF, fun g hg hx => ?_⟩
  have h1 := kidsLie_lt es F h g hx
  have h2 : w.heap.size = g := by injection hg
  omega
theorem DV.row {K : Nat} {w w7 w8 : World} {b : Nat} {A : Option Addr} {cap : Nat} {code : List UInt8} {k n x : Int} {s : ByteArray} {es : List Ent} {F : List Nat} {p N : Nat} {e : Ending} (he : e = .returned ((V.mk k n x s (es.map (·.1))).agg (some ⟨N, 0, none⟩) es.length))
    (hf : (V.mk k n x s (es.map (·.1))).fits) (hw : (V.mk k n x s (es.map (·.1))).weight ≤ K) (hl : kidsLie w7 es F) (hn : F.Nodup) (hF : ∀ x ∈ F, p < x) (hp : w.heap.size ≤ p) (hp7 : p < w7.heap.size) (hd : Drawn w b A cap code w7) (hb : b < w.heap.size) (hg : Gr p w7 w8) (hz : w8.heap.size = N) (hz7 : w7.heap.size = N) (hes : es.length ≤ 1000) :
    DV K w w b A cap code e (w8.alloc (.cells (flat es).toArray 43)) := by
  have hl8 : kidsLie w8 es F := kidsLie_same es F hl ⟨hg.size, fun x hx => hg.block x (kidsLie_lt es F hl x hx) (by intro e; injection e with e; have := hF x hx; omega)⟩
  have h1 := row_fresh (base := w.heap.size) es hl8 hn hes (fun x hx => by have := hF x hx; omega) (by omega)
  rw [hz] at h1
  exact ⟨k, n, x, s, es, _, _, F, he, hf, hw, h1, drawn_over hd hb ((hg.toBelow hp hd.2.size).alloc (by have := hd.2.size; omega) _)⟩
theorem MkAt.kind {w wr : World} {b p : Nat} {A : Option Addr} {cap : Nat} {code : List UInt8} {kd : Int} {es : List Ent} {oA : Option Addr} {oc : Nat} (h : MkAt w b p A cap code kd es oA oc wr) (hb : b < w.heap.size) (hp : w.heap.size ≤ p) (kd' : Int) : MkAt w b p A cap code kd' es oA oc (wr.setCell ⟨p, 0, none⟩ (.int .i64 kd')) := by
  obtain ⟨G, h1, h2, h3⟩ := h
  refine ⟨G, by have h := h1.set 0 (.int .i64 kd'); simpa using h, h2.gr (Gr.set p wr 0 _) (by omega), ⟨h3.1.below ((Below.refl w.heap.size wr).setCell hp _) hb, (drawn_over h3 hb ((Below.refl w.heap.size wr).setCell hp _)).2⟩⟩
theorem Vs.weight_app (a b : List V) : Vs.weight (a ++ b) = Vs.weight a + Vs.weight b := by
  induction a with
  | nil => simp [Vs.weight]
  | cons x l ih => simp only [List.cons_append, Vs.weight, ih]; omega
theorem Vs.fits_app (a b : List V) (h : Vs.fits a) (k : Vs.fits b) : Vs.fits (a ++ b) := by
  induction a with
  | nil => exact k
  | cons x l ih => simp only [Vs.fits] at h; simp only [List.cons_append, Vs.fits]; exact ⟨h.1, ih h.2⟩
/-- What a loop over kids has laid: m of them a round, of weight at most q a round. -/
def MkRel (m q n : Nat) (w : World) (b p : Nat) (A : Option Addr) (cap : Nat) (code : List UInt8) (kd : Int) (r : Nat) (i : Value) (wr : World) : Prop :=
  ∃ (j : Nat) (es : List Ent) (oA : Option Addr) (oc : Nat), i = .int .i64 (j : Int) ∧ j ≤ n ∧ es.length = m * j ∧ Hid (MkAt w b p A cap code kd es oA oc wr) ∧ Hid (Vs.fits (es.map (·.1)) ∧ Vs.weight (es.map (·.1)) ≤ j * q) ∧ Hid (Blk wr r 43 #[.int .i64 0, .int .i64 0, .int .i64 0, .string ⟨#[]⟩, .slice none 0 0])
theorem blk_gr {w1 w2 : World} {b p : Nat} {t : TypeId} {cs : Array Value} (hB : Blk w1 p t cs) (hp : p ≠ b) (hg : Gr b w1 w2) : Blk w2 p t cs := (hg.block p hB.lt (by intro e; injection e with e; exact hp e)).trans hB
theorem MkAt.other {w wr w1 w2 w' : World} {b p : Nat} {A : Option Addr} {cap : Nat} {code : List UInt8} {kd : Int} {es : List Ent} {oA : Option Addr} {oc : Nat} (h : MkAt w b p A cap code kd es oA oc wr) (hd1 : Drawn wr b A cap code w1) (h2 : Below w1.heap.size w1 w2)
    (hg : w2.grownBy w' (Value.slice oA es.length oc).ownBlock) {r : Nat} {t : TypeId} {cs : Array Value} (hr : Blk wr r t cs) (hrb : r ≠ b) (hrp : r < p) (x : Value) : Blk (w'.setCell ⟨p, 4, none⟩ x) r t cs := by
  obtain ⟨G, h3, h4, h5⟩ := h
  have e1 := blk_gr hr hrb hd1.2
  have e2 := e1.below h2 e1.lt
  have e3 : Blk w' r t cs := (hg.block r e2.lt fun e => by have := (h4.own.lt r e.symm).1; omega).trans e2
  exact blk_gr e3 (b := p) (by omega) (Gr.set p w' 4 x)
/-- A round of a loop over kids. -/
theorem MkRel.next {m q n : Nat} {w wr w1 w2 w' : World} {b p : Nat} {A : Option Addr} {cap : Nat} {code : List UInt8} {kd : Int} {r j : Nat} {es xs : List Ent} {F : List Nat} {oA : Option Addr} {oc g c' : Nat}
    (hm : MkAt w b p A cap code kd es oA oc wr) (hw : Vs.fits (es.map (·.1)) ∧ Vs.weight (es.map (·.1)) ≤ j * q) (hB : Blk wr r 43 #[.int .i64 0, .int .i64 0, .int .i64 0, .string ⟨#[]⟩, .slice none 0 0]) (hj : j < n) (hel : es.length = m * j) (hx : xs.length = m) (hxf : Vs.fits (xs.map (·.1))) (hxw : Vs.weight (xs.map (·.1)) ≤ q)
    (hb : b < w.heap.size) (hp : w.heap.size ≤ p) (hrb : r ≠ b) (hrp : r < p) (hl : kidsLie w1 xs F) (hnd : F.Nodup) (hF : ∀ x ∈ F, wr.heap.size ≤ x) (hd1 : Drawn wr b A cap code w1) (h2 : Below w1.heap.size w1 w2)
    (hown' : w'.ownsRow (p + 1) 43 5 (.slice (some ⟨g, 0, none⟩) (es.length + m) c') (es.length + m) (flat es ++ flat xs)) (hg : w2.grownBy w' (Value.slice oA es.length oc).ownBlock) (hat : (Value.slice oA es.length oc).ownBlock = some g ∨ g = w2.heap.size) :
    MkRel m q n w b p A cap code kd r (.int .i64 ((j : Int) + 1)) (w'.setCell ⟨p, 4, none⟩ (.slice (some ⟨g, 0, none⟩) (es.length + m) c')) := by
  subst hx
  refine ⟨j + 1, es ++ xs, some ⟨g, 0, none⟩, c', by go_num, hj, by rw [List.length_append, hel, Nat.mul_succ], Lib.hid (hm.next hb hp hl hnd hF hd1 h2 hown' hg hat), Lib.hid ⟨?_, ?_⟩, Lib.hid (hm.other hd1 h2 hg hB hrb hrp _)⟩
  · rw [List.map_append]; exact Vs.fits_app _ _ hw.1 hxf
  · rw [List.map_append, Vs.weight_app, Nat.succ_mul]; have := hw.2; omega
def mkKey (j : Nat) : ByteArray := if j = 0 then ⟨#[110, 97, 109, 101]⟩ else if j = 1 then ⟨#[105, 100]⟩ else if j = 2 then ⟨#[108, 105, 115, 116]⟩ else ⟨#[99, 111, 109, 109, 111, 110, 32, 107, 101, 121]⟩
theorem mkKey_size (j : Nat) : (mkKey j).size ≤ 10 := by
  unfold mkKey
  split
  · decide
  · split
    · decide
    · split <;> decide
theorem mkKey_at (j : Nat) (h : j < 4) : ([.string ⟨#[110, 97, 109, 101]⟩, .string ⟨#[105, 100]⟩, .string ⟨#[108, 105, 115, 116]⟩, .string ⟨#[99, 111, 109, 109, 111, 110, 32, 107, 101, 121]⟩] : List Value)[j]? = some (.string (mkKey j)) := by
  match j, h with
  | 0, _ => rfl
  | 1, _ => rfl
  | 2, _ => rfl
  | 3, _ => rfl
theorem key_fits (k n : Int) (s : ByteArray) (hk : inI k) (hn : inI n) (hs : s.size ≤ 10) : (V.mk k n 0 s []).fits :=
  (V.fits_eq _).2 ⟨by show s.size ≤ _; omega, by show 0 ≤ _; omega, by show Vs.fits []; simp [Vs.fits], hk, hn, by show inI 0; unfold inI; omega⟩
def mkTg : List Int := [0, 1, 24, 1000, 1000000]
theorem mkTg_in : ∀ z ∈ mkTg, inI z := by
  intro z hz
  simp only [mkTg, List.mem_cons, List.not_mem_nil, or_false] at hz
  unfold inI
  omega

end Go.Proofs.YtbfddabljkoapaaGreatDoor

/-
  The draws of values: a value with kids (l02Make).
-/
namespace Go.Proofs.YtbfddabljkoapaaGreatDoor
open Go.RowKit
set_option linter.unusedVariables false
set_option linter.unusedSimpArgs false
set_option maxRecDepth 100000

set_option maxHeartbeats 4000000 in
theorem mk_zero : MkSaid 0 := by
  intro plain b A cap code w hc
  have hbw : b < w.heap.size := hc.lt
  have hpb : w.heap.size ≠ b := by omega
  have B1 := Lib.hid (Blk.new w 43 #[.int .i64 0, .int .i64 0, .int .i64 0, .string ⟨#[]⟩, .slice none 0 0])
  have D1 := Lib.hid (Drawn.alloc hc (.cells #[.int .i64 0, .int .i64 0, .int .i64 0, .string ⟨#[]⟩, .slice none 0 0] 43))
  have Z1 : Hid ((w.alloc (.cells #[.int .i64 0, .int .i64 0, .int .i64 0, .string ⟨#[]⟩, .slice none 0 0] 43)).heap.size = w.heap.size + 1) := Lib.hid (by simp)
  clear hc
  go_enter Tryz.func153, Tryz.ntmps153
  go_wp2_with fail
  refine Calls.atW (fun w1 => Hid (Blk w1 w.heap.size 43 #[.int .i64 0, .int .i64 0, .int .i64 0, .string ⟨#[]⟩, .slice none 0 0]) ∧ Hid (Drawn w b A cap code w1) ∧ w1.heap.size = w.heap.size + 1) ⟨B1, D1, Z1.out⟩ ?_
  clear B1 D1 Z1
  rintro w1 ⟨B1, D1, Z1⟩
  refine (dLeaf plain b A cap code w1 D1.out.1).mono ?_
  rintro e w9 ⟨vk, vn, vx, vs, es, B, c, G, rfl, h1, h2, h4, h7⟩
  have H1 := Lib.hid h1
  have H2 := Lib.hid h2
  have H4 := Lib.hid h4
  have D9 := Lib.hid (D1.out.trans h7)
  have B8 := Lib.hid (res_cells B1.out hpb h7.2)
  have HZ9 := B1.out.lt
  clear h1 h2 h4 h7
  have B9 := B8.out
  obtain ⟨p0, p1, p2, p3, p4⟩ := B9.five
  have f0 := B9.frozen 0
  have f1 := B9.frozen 1
  have f2 := B9.frozen 2
  have f3 := B9.frozen 3
  have f4 := B9.frozen 4
  clear B9
  unfold V.agg
  go_wp2_with fail
  refine bodyPost_ret (v := (V.mk vk vn vx vs (es.map (·.1))).agg B c) (by simp [results, Tryz.results153, go_sem, p0, p1, p2, p3, p4, V.agg]) rfl (DV.gr (p := w.heap.size) rfl H1.out H2.out H4.out HZ9 (Nat.le_refl _) D9.out hbw ?hd)
  case hd => repeat (first | exact Gr.refl _ _ | (refine Gr.trans ?_ (Gr.set _ _ _ _)))

set_option maxHeartbeats 16000000 in
theorem mk_succ (d : Nat) (hd : d ≤ 2) (ih : MkSaid d) : MkSaid (d + 1) := by
  intro plain b A cap code w hc
  have hbw : b < w.heap.size := hc.lt
  have hpb : w.heap.size ≠ b := by omega
  have hd1 : ((d + 1 : Nat) : Int) = (d : Int) + 1 := by omega
  rw [hd1]
  have hd2 : ¬ ((d : Int) + 1 ≤ 0) := by omega
  have hd3 : (0 : Int) < (d : Int) + 1 := by omega
  have IH := Lib.hid ih
  clear ih hd1
  have B1 := Lib.hid (Blk.new w 43 #[.int .i64 0, .int .i64 0, .int .i64 0, .string ⟨#[]⟩, .slice none 0 0])
  have D1 := Lib.hid (Drawn.alloc hc (.cells #[.int .i64 0, .int .i64 0, .int .i64 0, .string ⟨#[]⟩, .slice none 0 0] 43))
  have Z1 : Hid ((w.alloc (.cells #[.int .i64 0, .int .i64 0, .int .i64 0, .string ⟨#[]⟩, .slice none 0 0] 43)).heap.size = w.heap.size + 1) := Lib.hid (by simp)
  clear hc
  go_enter Tryz.func153, Tryz.ntmps153
  go_wp2_with fail
  refine Calls.atW (fun w1 => Hid (Blk w1 w.heap.size 43 #[.int .i64 0, .int .i64 0, .int .i64 0, .string ⟨#[]⟩, .slice none 0 0]) ∧ Hid (Drawn w b A cap code w1) ∧ w1.heap.size = w.heap.size + 1) ⟨B1, D1, Z1.out⟩ ?_
  clear B1 D1 Z1
  rintro w1 ⟨B1, D1, Z1⟩
  refine (dOnce 3 b A cap code w1 (by omega) (by omega) D1.out.1).mono ?_
  rintro e w2 ⟨⟨r, rfl⟩, hd2⟩
  have D2 := Lib.hid (D1.out.trans hd2)
  have B2 := Lib.hid (res_cells B1.out hpb hd2.2)
  have hzp : w.heap.size < w2.heap.size := by have := hd2.2.size; omega
  have hbp : b < w2.heap.size := by omega
  clear hd2 B1 D1 Z1
  cases r
  · go_wp2_with fail
    refine Calls.atW (fun w3 => Hid (Blk w3 w.heap.size 43 #[.int .i64 0, .int .i64 0, .int .i64 0, .string ⟨#[]⟩, .slice none 0 0]) ∧ Hid (MkAt w b w2.heap.size A cap code 7 [] none 0 w3)) ⟨Lib.hid (B2.out.alloc _), Lib.hid (MkAt.start (Blk.new w2 43 #[.int .i64 7, .int .i64 0, .int .i64 0, .string ⟨#[]⟩, .slice none 0 0]) ⟨D2.out.1.alloc _, D2.out.2.alloc _⟩)⟩ ?_
    clear B2
    rintro w3 ⟨B3, M3⟩
    refine (dBelow 4 b A cap code w3 (by omega) (by omega) M3.out.drawn.1).mono ?_
    rintro e w4 ⟨⟨n, hn, rfl⟩, hd4⟩
    have M4 := Lib.hid (M3.out.gr hbp hd4)
    have B4 := Lib.hid (res_cells B3.out hpb hd4.2)
    clear hd4 B3 M3
    go_wp2_with fail
    refine (dBelow 5 b A cap code w4 (by omega) (by omega) M4.out.drawn.1).mono ?_
    rintro e w5 ⟨⟨k, hk, rfl⟩, hd5⟩
    have M5 := Lib.hid (M4.out.gr hbp hd5)
    have B5 := Lib.hid (res_cells B4.out hpb hd5.2)
    clear hd5 B4 M4
    have h4 : ∀ (K : Prop), (k = 0 ∧ plain = false) ∨ (k = 1 ∨ k = 2) ∨ ((k = 0 ∧ plain = true) ∨ k = 3 ∨ k = 4) := fun _ => by
      cases plain
      · simp; omega
      · simp; omega
    have HX := Lib.hid (h4 True)
    clear h4 hk
    rcases HX.out with ⟨rfl, rfl⟩ | hm | hl
    · go_wp2_with fail
      refine (dPickIntNew mkTg b A cap code _ (by decide) (by decide) M5.out.drawn.1).mono ?_
      rintro e w6 ⟨⟨z, hz, rfl⟩, hd6⟩
      have D6 := Lib.hid (M5.out.drawn.trans hd6)
      have B6 := Lib.hid (res_cells B5.out hpb hd6.2)
      have hz2 := mkTg_in z hz
      clear hd6 B5 M5 hz
      have hwr : IntKind.i64.wrap ((d : Int) + 1 - 1) = (d : Int) := by rw [IntKind.wrap_i64]; omega
      go_wp2_with fail
      refine (IH.out false b A cap code w6 D6.out.1).mono ?_
      intro e w7 hdv; obtain ⟨v, B, c, F, rfl, h1, h2, h3, h4, h5, h6, h7⟩ := hdv.opened
      have H1 := Lib.hid h1
      have H4 := Lib.hid (kidsLie_one h3 h4)
      have HZ := D6.out.2.size
      have D7 := Lib.hid (D6.out.trans h7)
      have B7 := Lib.hid (res_cells B6.out hpb h7.2)
      have H5 := Lib.hid h5
      have H6 := Lib.hid h6
      have HZ7 : w.heap.size < w7.heap.size := B7.out.lt
      have HZ6 : w.heap.size < w6.heap.size := B6.out.lt
      clear h1 h4 h5 h6 h7
      have B9 := B7.out
      obtain ⟨p0, p1, p2, p3, p4⟩ := B9.five
      have f0 := B9.frozen 0
      have f1 := B9.frozen 1
      have f2 := B9.frozen 2
      have f3 := B9.frozen 3
      have f4 := B9.frozen 4
      clear B9
      unfold V.agg
      go_wp2_with fail
      refine bodyPost_ret (v := .agg #[.int .i64 9, .int .i64 z, .int .i64 0, .string ⟨#[]⟩, .slice (some ⟨w7.heap.size, 0, none⟩) 1 1]) (by simp [results, Tryz.results153, go_sem, p0, p1, p2, p3, p4, HZ7]) rfl (DV.row (k := 9) (n := z) (x := 0) (s := ⟨#[]⟩) (es := [(v, B, c)]) (p := w.heap.size) rfl ?hf ?hw H4.out H5.out (fun x hx => ?hx) (Nat.le_refl _) HZ7 D7.out hbw ?hd (by simp) rfl (by simp))
      case hf => exact (V.fits_eq _).2 ⟨by show (0 : Nat) ≤ _; omega, by show (1 : Nat) ≤ _; omega, by show Vs.fits [v]; simp only [Vs.fits]; exact ⟨H1.out, trivial⟩, by show inI 9; unfold inI; omega, hz2, by show inI 0; unfold inI; omega⟩
      case hw => rw [V.weight_eq, WK_up]; show 0 + Vs.weight [v] ≤ _; simp only [Vs.weight]; omega
      case hx => have := H6.out x hx; omega
      case hd => repeat (first | exact Gr.refl _ _ | (refine Gr.trans ?_ (Gr.set _ _ _ _)))
    · have q0 : ((k : Int) == 0) = false := by rw [beq_eq_false_iff_ne]; omega
      have q0n : ¬ (k : Int) = 0 := by omega
      all_goals
        go_upto_if 40 with fail
        go_cut [40] from 41 to 42 (fun z wx => z = .bool true ∧ wx = w5)
        case first =>
          rcases hm with rfl | rfl
          all_goals
            go_wp2_with fail
            go_meet
            case rel => exact ⟨rfl, rfl⟩
        case rest =>
        obtain ⟨rfl, rfl⟩ := hcut
        have B6 := Lib.hid M5.out.blk
        have B9 := B6.out
        obtain ⟨p0, p1, p2, p3, p4⟩ := B9.five
        have f0 := B9.frozen 0
        have f1 := B9.frozen 1
        have f2 := B9.frozen 2
        have f3 := B9.frozen 3
        have f4 := B9.frozen 4
        clear B9
        go_wp2_with fail
        clear p0 p1 p2 p3 p4 f0 f1 f2 f3 f4
        go_loopw [9] (fun i wr => MkRel 2 (WK d + 12) n w b w2.heap.size A cap code 8 w.heap.size i wr) (fun i _ => n - (intOf i).toNat)
        case atStart => exact ⟨0, [], none, 0, rfl, Nat.zero_le _, rfl, Lib.hid (M5.out.kind hbw (by omega) 8), Lib.hid ⟨by simp [Vs.fits], by simp [Vs.weight]⟩, Lib.hid (res_cells B5.out (b := w2.heap.size) (by omega) (Gr.set _ _ _ _))⟩
        case round =>
          obtain ⟨j, es, oA, oc, rfl, hj, hel, HM, HW, HB⟩ := hrel
          by_cases hlt : j < n
          · have hlt2 : (j : Int) < (n : Int) := by omega
            have hlt4 : (j : Int) < 4 := by omega
            have hj4 : j < 4 := by omega
            have hwr : IntKind.i64.wrap ((d : Int) + 1 - 1) = (d : Int) := by rw [IntKind.wrap_i64]; omega
            have hwr2 : IntKind.i64.wrap (d : Int) = (d : Int) := by rw [IntKind.wrap_i64]; omega
            obtain ⟨i0, hi, hz0, hz1, hz2⟩ := info_parts infoV
            have hsm : es.length ≤ 6 := by omega
            have HEL := Lib.hid hel
            have KL := mkKey_at j hj4
            have KA : (#[.string ⟨#[110, 97, 109, 101]⟩, .string ⟨#[105, 100]⟩, .string ⟨#[108, 105, 115, 116]⟩, .string ⟨#[99, 111, 109, 109, 111, 110, 32, 107, 101, 121]⟩] : Array Value)[j]? = some (.string (mkKey j)) := by rw [List.getElem?_toArray]; exact KL
            have KC : (wr.alloc (.cells #[.string ⟨#[110, 97, 109, 101]⟩, .string ⟨#[105, 100]⟩, .string ⟨#[108, 105, 115, 116]⟩, .string ⟨#[99, 111, 109, 109, 111, 110, 32, 107, 101, 121]⟩] 9)).cell? ⟨wr.heap.size, j, none⟩ = some (.string (mkKey j)) := (Blk.new wr 9 #[.string ⟨#[110, 97, 109, 101]⟩, .string ⟨#[105, 100]⟩, .string ⟨#[108, 105, 115, 116]⟩, .string ⟨#[99, 111, 109, 109, 111, 110, 32, 107, 101, 121]⟩]).cell j |>.trans KA
            have HKS := Lib.hid (mkKey_size j)
            have HD1 := Lib.hid ((Drawn.refl HM.out.drawn.1).trans (Drawn.alloc HM.out.drawn.1 (.cells #[.string ⟨#[110, 97, 109, 101]⟩, .string ⟨#[105, 100]⟩, .string ⟨#[108, 105, 115, 116]⟩, .string ⟨#[99, 111, 109, 109, 111, 110, 32, 107, 101, 121]⟩] 9)))
            clear hel
            go_wp2_with fail
            refine (drawStr (mkKey j) _).mono ?_
            rintro e w6 ⟨rfl, hb6⟩
            have HD6 := Lib.hid (HD1.out.trans (Drawn.of HD1.out.1 hb6))
            clear hb6 KC KA KL HD1
            unfold V.agg
            go_upto_region 16 with fail
            go_cut [59] from 54 to 61 (fun z wx => ∃ rb : Bool, z = .bool rb ∧ (rb = true → plain = false) ∧ Hid (Drawn wr b A cap code wx) ∧ Hid (Blk wx w6.heap.size 43 #[.int .i64 5, .int .i64 0, .int .i64 0, .string (mkKey j), .slice none 0 0]))
            case first =>
              go_wp2_with fail
              refine Calls.atW (fun w7 => Hid (Drawn wr b A cap code w7) ∧ Hid (Blk w7 w6.heap.size 43 #[.int .i64 5, .int .i64 0, .int .i64 0, .string (mkKey j), .slice none 0 0])) ⟨Lib.hid (HD6.out.trans (Drawn.alloc HD6.out.1 _)), Lib.hid (Blk.new w6 43 _)⟩ ?_
              rintro w7 ⟨HD7, HK7⟩
              refine (dOnce 8 b A cap code w7 (by omega) (by omega) HD7.out.1).mono ?_
              rintro e w8 ⟨⟨r2, rfl⟩, hd8⟩
              have hg6 : w6.heap.size ≠ b := by have := HD6.out.2.size; have := HM.out.drawn.2.size; omega
              have HDW := Lib.hid (HD7.out.trans hd8)
              have HK := Lib.hid (res_cells HK7.out hg6 hd8.2)
              clear hd8 HD7 HK7
              cases r2
              · go_wp2_with fail
                go_meet
                case rel => exact ⟨false, rfl, by simp, HDW, HK⟩
              · cases plain
                · go_wp2_with fail
                  go_meet
                  case rel => exact ⟨true, rfl, by simp, HDW, HK⟩
                · go_wp2_with fail
                  go_meet
                  case rel => exact ⟨false, rfl, by simp, HDW, HK⟩
            case rest =>
            obtain ⟨rb, rfl, hrb, HDW, HK⟩ := hcut
            obtain ⟨wd, hwd⟩ : ∃ wd, wd = wc := ⟨_, rfl⟩
            subst hwd
            go_upto_if 59 with fail
            go_cut [59] from 60 to 61 (fun z wx => ∃ (kk nn : Int) (ss : ByteArray), Hid (Drawn wr b A cap code wx) ∧ Hid (Blk wx w6.heap.size 43 #[.int .i64 kk, .int .i64 nn, .int .i64 0, .string ss, .slice none 0 0]) ∧ Hid ((V.mk kk nn 0 ss []).fits) ∧ Hid (ss.size ≤ 10))
            case first =>
              cases rb
              · go_wp2_with fail
                go_meet
                case rel => exact ⟨5, 0, mkKey j, HDW, HK, Lib.hid (key_fits 5 0 _ (by unfold inI; omega) (by unfold inI; omega) HKS.out), HKS⟩
              · obtain rfl := hrb rfl
                go_wp2_with fail
                refine (drawInt (j : Int) _).mono ?_
                rintro e w11 ⟨rfl, hb11⟩
                have HDX := Lib.hid (HDW.out.trans (Drawn.of HDW.out.1 hb11))
                have HKX := Lib.hid (HK.out.below hb11 HK.out.lt)
                clear hb11 HK HDW
                have B9 := HKX.out
                obtain ⟨p0, p1, p2, p3, p4⟩ := B9.five
                have f0 := B9.frozen 0
                have f1 := B9.frozen 1
                have f2 := B9.frozen 2
                have f3 := B9.frozen 3
                have f4 := B9.frozen 4
                clear B9
                unfold V.agg
                go_wp2_with fail
                go_meet
                case rel =>
                  refine ⟨3, j, ⟨#[]⟩, Lib.hid ?_, Lib.hid ?_, Lib.hid (key_fits 3 _ _ (by unfold inI; omega) (by unfold inI; omega) (Nat.zero_le _)), Lib.hid (Nat.zero_le _)⟩
                  · have hz6 := HD6.out.2.size
                    refine drawn_over HDX.out (by have := HM.out.drawn.2.size; omega) ?_
                    repeat (first | exact Below.refl _ _ | (refine Below.setCell ?_ (by simp; try omega) _))
                  · have h := ((((HKX.out.set 0 (.int .i64 3)).set 1 (.int .i64 (j : Int))).set 2 (.int .i64 0)).set 3 (.string ⟨#[]⟩)).set 4 (.slice none 0 0)
                    simpa [V.k, V.n, V.e, V.s, V.kids] using h
            case rest =>
              clear HKS
              obtain ⟨kk, nn, ss, HDW, HK, HKF, HKS⟩ := hcut
              go_wp2_with fail
              have B6 := Lib.hid (HM.out.gr hbp HDW.out).blk
              have B6b := B6.out
              obtain ⟨p0, p1, p2, p3, p4⟩ := B6b.five
              have f4 := B6b.frozen 4
              clear B6b
              obtain ⟨k0, k1, k2, k3, k4⟩ := HK.out.five
              have HMD := Lib.hid (HDW.out.1.drew)
              have hgp : b ≠ w6.heap.size := by have := HM.out.drawn.2.size; have := HD6.out.2.size; omega
              go_region_law (first
                | (refine step_append_lies _ (by rfl) (.tmp 63) (.tmp 70) 41 (by rfl) (w2.heap.size + 1) 43 i0 _ 5 64 Tryz.underlying41 hi hz0 hz1 hz2 (by rfl) (by omega) (.slice oA es.length oc) es.length (flat es) (by rfl) (HO.out.alloc _) ⟨w9.heap.size, 0, none⟩ 2 2 (flat [(V.mk kk nn 0 ss [], none, 0), (v, B, c)]) (by rfl) (by rfl) HN.out (flat_ones _) (by omega) (by unfold maxLen; omega) (by omega) (by simp; omega) _ rfl ?_
                   intro g c' w10 hown' hgr hat hlt'
                   have B8 := Lib.hid (HM.out.far hbp HD9.out ((Below.refl _ _).alloc (Nat.le_refl _) _) hgr)
                   have q4 := (B8.out.five).2.2.2.2
                   have e4 := B8.out.frozen 4)
                | (go_simp
                   go_at_call 153
                   refine (IH.out _ b A cap code _ HMD.out).mono ?_
                   intro e w9 hdv; obtain ⟨v, B, c, F, rfl, h1, h2, h3, h4, h5, h6, h7⟩ := hdv.opened
                   have HZW := HDW.out.2.size
                   have HD9 := Lib.hid (HDW.out.trans (Drawn.undrew h7))
                   have HO := Lib.hid (HM.out.own HD9.out.2 hbp)
                   have HN := Lib.hid (cells_new w9 (flat [(V.mk kk nn 0 ss [], none, 0), (v, B, c)]).toArray 43)
                   have HK9 := Lib.hid (res_cells HK.out (Ne.symm hgp) (Drawn.undrew h7).2)
                   obtain ⟨l0, l1, l2, l3, l4⟩ := HK9.out.five
                   have H1 := Lib.hid h1
                   have H4 := Lib.hid h4
                   have H5 := Lib.hid h5
                   have H6 := Lib.hid h6
                   have B6 := Lib.hid (HM.out.gr hbp HD9.out).blk
                   have q4 := (B6.out.five).2.2.2.2
                   have hwz : w2.heap.size < w9.heap.size := B6.out.lt
                   clear h1 h4 h5 h6 h7
                   unfold V.agg))
              all_goals
                go_wp2_with fail
                go_roundw
                case rel => exact MkRel.next (xs := [(V.mk kk nn 0 ss [], none, 0), (v, B, c)]) HM.out HW.out HB.out hlt HEL.out (by rfl) (by simp only [List.map_cons, List.map_nil, Vs.fits]; exact ⟨HKF.out, H1.out, trivial⟩) (by simp only [List.map_cons, List.map_nil, Vs.weight, V.weight]; have := HKS.out; omega) hbw (by omega) hpb hzp (kidsLie_append [_] [_] [] _ (kidsLie_one (Nat.le_refl 0) (.inl ⟨rfl, rfl⟩)) (kidsLie_one h3 H4.out)) H5.out (fun x hx => Nat.le_trans HZW (H6.out x hx)) HD9.out ((Below.refl _ _).alloc (Nat.le_refl _) _) hown' hgr hat
                case measure => simp [intOf]; omega
          · have hjn : j = n := by omega
            have h3n : n ≤ 3 := by omega
            have HEL := Lib.hid hel
            clear hlt hj hn hel
            subst hjn
            have hjw : j * (WK d + 12) ≤ 3 * (WK d + 12) := Nat.mul_le_mul_right _ h3n
            have HC := Lib.hid HM.out.blk
            obtain ⟨q0, q1, q2, q3, q4⟩ := HC.out.five
            have B9 := HB.out
            obtain ⟨p0, p1, p2, p3, p4⟩ := B9.five
            have f0 := B9.frozen 0
            have f1 := B9.frozen 1
            have f2 := B9.frozen 2
            have f3 := B9.frozen 3
            have f4 := B9.frozen 4
            clear B9
            go_wp2_with fail
            obtain ⟨G, _, hrow, _⟩ := HM.out
            refine bodyPost_ret (v := .agg #[.int .i64 8, .int .i64 0, .int .i64 0, .string ⟨#[]⟩, .slice oA es.length oc]) (by simp [results, Tryz.results153, go_sem, p0, p1, p2, p3, p4, q0, q1, q2, q3, q4]) rfl (DV.gr (k := 8) (n := 0) (x := 0) (s := ⟨#[]⟩) (es := es) (B := oA) (c := oc) (p := w.heap.size) (by simp [V.agg, V.k, V.n, V.e, V.s, V.kids]) ?hf ?hw hrow (by omega) (Nat.le_refl _) HM.out.drawn hbw ?hd)
            case hf => exact (V.fits_eq _).2 ⟨by show (0 : Nat) ≤ _; omega, by show (es.map (·.1)).length ≤ _; have := HEL.out; simp; omega, HW.out.1, by show inI 8; unfold inI; omega, by show inI 0; unfold inI; omega, by show inI 0; unfold inI; omega⟩
            case hw => rw [V.weight_eq, WK_up]; show 0 + Vs.weight (es.map (·.1)) ≤ _; have := HW.out.2; omega
            case hd => repeat (first | exact Gr.refl _ _ | (refine Gr.trans ?_ (Gr.set _ _ _ _)))

    · rcases hl with ⟨rfl, rfl⟩ | rfl | rfl
      all_goals
        go_wp2_with fail
        go_loopw [11] (fun i wr => MkRel 1 (WK d + 1) n w b w2.heap.size A cap code 7 w.heap.size i wr) (fun i _ => n - (intOf i).toNat)
        case atStart => exact ⟨0, [], none, 0, rfl, Nat.zero_le _, rfl, M5, Lib.hid ⟨by simp [Vs.fits], by simp [Vs.weight]⟩, B5⟩
        case round =>
          obtain ⟨j, es, oA, oc, rfl, hj, hel, HM, HW, HB⟩ := hrel
          by_cases hlt : j < n
          · have hlt2 : (j : Int) < (n : Int) := by omega
            have B6 := Lib.hid HM.out.blk
            have B9 := B6.out
            obtain ⟨p0, p1, p2, p3, p4⟩ := B9.five
            have f0 := B9.frozen 0
            have f1 := B9.frozen 1
            have f2 := B9.frozen 2
            have f3 := B9.frozen 3
            have f4 := B9.frozen 4
            clear B9
            have HMD := Lib.hid (HM.out.drawn.1.drew)
            have hwr : IntKind.i64.wrap ((d : Int) + 1 - 1) = (d : Int) := by rw [IntKind.wrap_i64]; omega
            have hwr2 : IntKind.i64.wrap (d : Int) = (d : Int) := by rw [IntKind.wrap_i64]; omega
            obtain ⟨i0, hi, hz0, hz1, hz2⟩ := info_parts infoV
            have hsm : es.length ≤ 3 := by omega
            have HEL := Lib.hid hel
            clear hel
            go_wp2_with fail
            go_region_law (first
              | (refine step_append_lies _ (by rfl) (.tmp 80) (.tmp 86) 41 (by rfl) (w2.heap.size + 1) 43 i0 _ 5 64 Tryz.underlying41 hi hz0 hz1 hz2 (by rfl) (by omega) (.slice oA es.length oc) es.length (flat es) (by rfl) (HO.out.alloc _) ⟨w6.heap.size, 0, none⟩ 1 1 (Ent.cells (v, B, c)) (by rfl) (by rfl) HN.out (ent_ones' _) (by omega) (by unfold maxLen; omega) (by omega) (by simp; omega) _ rfl ?_
                 intro g c' w8 hown' hgr hat hlt'
                 have B8 := Lib.hid (HM.out.far hbp HD6.out ((Below.refl _ _).alloc (Nat.le_refl _) _) hgr)
                 have q4 := (B8.out.five).2.2.2.2
                 have e4 := B8.out.frozen 4)
              | (go_simp
                 go_at_call 153
                 refine (IH.out _ b A cap code _ HMD.out).mono ?_
                 intro e w6 hdv; obtain ⟨v, B, c, F, rfl, h1, h2, h3, h4, h5, h6, h7⟩ := hdv.opened
                 have HD6 := Lib.hid (Drawn.undrew h7)
                 have HO := Lib.hid (HM.out.own HD6.out.2 hbp)
                 have HN := Lib.hid (cells_new w6 (Ent.cells (v, B, c)).toArray 43)
                 have H1 := Lib.hid h1
                 have H4 := Lib.hid h4
                 have H5 := Lib.hid h5
                 have H6 := Lib.hid h6
                 have B6 := Lib.hid (HM.out.gr hbp HD6.out).blk
                 have q4 := (B6.out.five).2.2.2.2
                 have hwz : w2.heap.size < w6.heap.size := B6.out.lt
                 clear h1 h4 h5 h6 h7
                 unfold V.agg))
            all_goals
              go_wp2_with fail
              go_roundw
              case rel => exact MkRel.next HM.out HW.out HB.out hlt HEL.out (by rfl) (by simp only [List.map_cons, List.map_nil, Vs.fits]; exact ⟨H1.out, trivial⟩) (by simp only [List.map_cons, List.map_nil, Vs.weight]; omega) hbw (by omega) hpb hzp (kidsLie_one h3 H4.out) H5.out (fun x hx => H6.out x hx) HD6.out ((Below.refl _ _).alloc (Nat.le_refl _) _) (by simpa [flat] using hown') hgr hat
              case measure => simp [intOf]; omega
          · have hjn : j = n := by omega
            have h3n : n ≤ 3 := by omega
            have HEL := Lib.hid hel
            clear hlt hj hn hel
            subst hjn
            have hjw : j * (WK d + 1) ≤ 3 * (WK d + 1) := Nat.mul_le_mul_right _ h3n
            have HC := Lib.hid HM.out.blk
            obtain ⟨q0, q1, q2, q3, q4⟩ := HC.out.five
            have B9 := HB.out
            obtain ⟨p0, p1, p2, p3, p4⟩ := B9.five
            have f0 := B9.frozen 0
            have f1 := B9.frozen 1
            have f2 := B9.frozen 2
            have f3 := B9.frozen 3
            have f4 := B9.frozen 4
            clear B9
            go_wp2_with fail
            obtain ⟨G, _, hrow, _⟩ := HM.out
            refine bodyPost_ret (v := .agg #[.int .i64 7, .int .i64 0, .int .i64 0, .string ⟨#[]⟩, .slice oA es.length oc]) (by simp [results, Tryz.results153, go_sem, p0, p1, p2, p3, p4, q0, q1, q2, q3, q4]) rfl (DV.gr (k := 7) (n := 0) (x := 0) (s := ⟨#[]⟩) (es := es) (B := oA) (c := oc) (p := w.heap.size) (by simp [V.agg, V.k, V.n, V.e, V.s, V.kids]) ?hf ?hw hrow (by omega) (Nat.le_refl _) HM.out.drawn hbw ?hd)
            case hf => exact (V.fits_eq _).2 ⟨by show (0 : Nat) ≤ _; omega, by show (es.map (·.1)).length ≤ _; have := HEL.out; simp; omega, HW.out.1, by show inI 7; unfold inI; omega, by show inI 0; unfold inI; omega, by show inI 0; unfold inI; omega⟩
            case hw => rw [V.weight_eq, WK_up]; show 0 + Vs.weight (es.map (·.1)) ≤ _; have := HW.out.2; omega
            case hd => repeat (first | exact Gr.refl _ _ | (refine Gr.trans ?_ (Gr.set _ _ _ _)))

  · go_wp2_with fail
    refine (dLeaf plain b A cap code w2 D2.out.1).mono ?_
    rintro e w9 ⟨vk, vn, vx, vs, es, B, c, G, rfl, h1, h2, h4, h7⟩
    have H1 := Lib.hid h1
    have H2 := Lib.hid h2
    have H4 := Lib.hid h4
    have D9 := Lib.hid (D2.out.trans h7)
    have B8 := Lib.hid (res_cells B2.out hpb h7.2)
    have HZ9 := B2.out.lt
    clear h1 h2 h4 h7
    have B9 := B8.out
    obtain ⟨p0, p1, p2, p3, p4⟩ := B9.five
    have f0 := B9.frozen 0
    have f1 := B9.frozen 1
    have f2 := B9.frozen 2
    have f3 := B9.frozen 3
    have f4 := B9.frozen 4
    clear B9
    unfold V.agg
    go_wp2_with fail
    refine bodyPost_ret (v := (V.mk vk vn vx vs (es.map (·.1))).agg B c) (by simp [results, Tryz.results153, go_sem, p0, p1, p2, p3, p4, V.agg]) rfl (DV.gr (p := w.heap.size) rfl H1.out (by rw [WK_up]; have := WK_ge d; have := H2.out; omega) H4.out HZ9 (Nat.le_refl _) D9.out hbw ?hd)
    case hd => repeat (first | exact Gr.refl _ _ | (refine Gr.trans ?_ (Gr.set _ _ _ _)))

theorem mk_said : ∀ d, d ≤ 3 → MkSaid d
  | 0, _ => mk_zero
  | d + 1, h => mk_succ d (by omega) (mk_said d (by omega))
end Go.Proofs.YtbfddabljkoapaaGreatDoor

/-
  The draws of values: any value.
-/
namespace Go.Proofs.YtbfddabljkoapaaGreatDoor
open Go.RowKit
set_option linter.unusedVariables false
set_option linter.unusedSimpArgs false
set_option maxRecDepth 100000

theorem RowOf.grx {w w' : World} {base : Nat} {o : Value} {es : List Ent} {G : List Nat} {p : Nat} (h : RowOf w base o es G) (hg : Gr p w w') (h1 : p ∉ G) (h2 : ∀ g, o.ownBlock = some g → g ≠ p) : RowOf w' base o es G := by
  refine ⟨⟨h.own.1, ?_⟩, kidsLie_same es G h.kids ⟨hg.size, fun c hc => hg.block c (h.lt c hc) (by intro e; injection e with e; exact h1 (e ▸ hc))⟩, h.nodup, h.low, h.apart⟩
  rcases h.own.2 with h' | ⟨g, c, cur, rfl, k1, k2, k3⟩
  · exact .inl h'
  · refine .inr ⟨g, c, cur, rfl, k1, (hg.block g (h.own.lt g rfl).2 ?_).trans k2, k3⟩
    intro e
    injection e with e
    exact h2 g rfl e
/-- A value in its cells, its row elsewhere. -/
def VAt (w : World) (b p base : Nat) (A : Option Addr) (cap : Nat) (code : List UInt8) (k n x : Int) (s : ByteArray) (es : List Ent) (B : Option Addr) (c : Nat) (wr : World) : Prop :=
  ∃ G, Blk wr p 43 #[.int .i64 k, .int .i64 n, .int .i64 x, .string s, .slice B es.length c] ∧ RowOf wr base (.slice B es.length c) es G ∧ p ∉ G ∧ (∀ g, (Value.slice B es.length c).ownBlock = some g → g ≠ p) ∧ Drawn w b A cap code wr
theorem VAt.gr {w wr w1 : World} {b p base : Nat} {A : Option Addr} {cap : Nat} {code : List UInt8} {k n x : Int} {s : ByteArray} {es : List Ent} {B : Option Addr} {c : Nat} (h : VAt w b p base A cap code k n x s es B c wr) (hb : b < base) (hbp : b ≠ p) (hd : Drawn wr b A cap code w1) : VAt w b p base A cap code k n x s es B c w1 := by
  obtain ⟨G, h1, h2, h3, h4, h5⟩ := h
  exact ⟨G, blk_gr h1 (Ne.symm hbp) hd.2, h2.gr hd.2 hb, h3, h4, h5.trans hd⟩
theorem VAt.blk {w wr : World} {b p base : Nat} {A : Option Addr} {cap : Nat} {code : List UInt8} {k n x : Int} {s : ByteArray} {es : List Ent} {B : Option Addr} {c : Nat} (h : VAt w b p base A cap code k n x s es B c wr) : Blk wr p 43 #[.int .i64 k, .int .i64 n, .int .i64 x, .string s, .slice B es.length c] := by
  obtain ⟨G, h1, _⟩ := h
  exact h1
theorem VAt.drawn {w wr : World} {b p base : Nat} {A : Option Addr} {cap : Nat} {code : List UInt8} {k n x : Int} {s : ByteArray} {es : List Ent} {B : Option Addr} {c : Nat} (h : VAt w b p base A cap code k n x s es B c wr) : Drawn w b A cap code wr := by
  obtain ⟨G, _, _, _, _, h1⟩ := h
  exact h1
/-- A field stored. -/
theorem VAt.set {w wr : World} {b p base : Nat} {A : Option Addr} {cap : Nat} {code : List UInt8} {k n x k' n' x' : Int} {s s' : ByteArray} {es : List Ent} {B : Option Addr} {c : Nat} (h : VAt w b p base A cap code k n x s es B c wr) (hb : b < w.heap.size) (hp : w.heap.size ≤ p) (i : Nat) (u : Value)
    (hi : (#[.int .i64 k, .int .i64 n, .int .i64 x, .string s, .slice B es.length c] : Array Value).setIfInBounds i u = #[.int .i64 k', .int .i64 n', .int .i64 x', .string s', .slice B es.length c]) : VAt w b p base A cap code k' n' x' s' es B c (wr.setCell ⟨p, i, none⟩ u) := by
  obtain ⟨G, h1, h2, h3, h4, h5⟩ := h
  refine ⟨G, by have h := h1.set i u; rw [hi] at h; exact h, h2.grx (Gr.set p wr i u) h3 h4, h3, h4, drawn_over h5 hb ((Below.refl w.heap.size wr).setCell hp _)⟩
/-- The value handed back. -/
theorem VAt.res {K : Nat} {w w1 W : World} {b p base r : Nat} {A : Option Addr} {cap : Nat} {code : List UInt8} {k n x : Int} {s : ByteArray} {es : List Ent} {B : Option Addr} {c : Nat} {e : Ending} (h : VAt w b p base A cap code k n x s es B c w1) (he : e = .returned ((V.mk k n x s (es.map (·.1))).agg B c))
    (hf : (V.mk k n x s (es.map (·.1))).fits) (hw : (V.mk k n x s (es.map (·.1))).weight ≤ K) (hr : r < base) (hp : w.heap.size ≤ r) (hb : b < w.heap.size) (hg : Gr r w1 W) : DV K w w b A cap code e W := by
  obtain ⟨G, h1, h2, h3, h4, h5⟩ := h
  exact DV.gr he hf hw h2 hr hp h5 hb hg
/-- The value's cells laid in a new block. -/
theorem VAt.start {w w3 : World} {b base : Nat} {A : Option Addr} {cap : Nat} {code : List UInt8} {k n x : Int} {s : ByteArray} {es : List Ent} {B : Option Addr} {c : Nat} {G : List Nat} (h : RowOf w3 base (.slice B es.length c) es G) (hd : Drawn w b A cap code w3) :
    VAt w b w3.heap.size base A cap code k n x s es B c (w3.alloc (.cells #[.int .i64 k, .int .i64 n, .int .i64 x, .string s, .slice B es.length c] 43)) :=
  ⟨G, Blk.new w3 43 _, h.alloc _, fun hx => by have := h.lt _ hx; omega, fun g hg => by have := (h.own.lt g hg).2; omega, hd.trans (Drawn.alloc hd.1 _)⟩

theorem VAt.own {w wr w1 : World} {b p base : Nat} {A : Option Addr} {cap : Nat} {code : List UInt8} {k n x : Int} {s : ByteArray} {es : List Ent} {B : Option Addr} {c : Nat} (h : VAt w b p base A cap code k n x s es B c wr) (hb : b < base) (hg : Gr b wr w1) : w1.ownsRow base 43 5 (.slice B es.length c) es.length (flat es) := by
  obtain ⟨G, _, h2, _⟩ := h
  exact own_gr h2.own hg hb
theorem VAt.far {w wr w1 w2 w' : World} {b p base : Nat} {A : Option Addr} {cap : Nat} {code : List UInt8} {k n x : Int} {s : ByteArray} {es : List Ent} {B : Option Addr} {c : Nat} (h : VAt w b p base A cap code k n x s es B c wr) (hbp : b ≠ p) (hd1 : Drawn wr b A cap code w1) (h2 : Below w1.heap.size w1 w2)
    (hg : w2.grownBy w' (Value.slice B es.length c).ownBlock) : Blk w' p 43 #[.int .i64 k, .int .i64 n, .int .i64 x, .string s, .slice B es.length c] := by
  obtain ⟨G, h3, h4, h5, h6, h7⟩ := h
  have e1 := blk_gr h3 (Ne.symm hbp) hd1.2
  have e2 := e1.below h2 e1.lt
  exact (hg.block p e2.lt fun e => h6 p e.symm rfl).trans e2
theorem VAt.other {w wr w1 w2 w' : World} {b p base : Nat} {A : Option Addr} {cap : Nat} {code : List UInt8} {k n x : Int} {s : ByteArray} {es : List Ent} {B : Option Addr} {c : Nat} (h : VAt w b p base A cap code k n x s es B c wr) (hd1 : Drawn wr b A cap code w1) (h2 : Below w1.heap.size w1 w2)
    (hg : w2.grownBy w' (Value.slice B es.length c).ownBlock) {r : Nat} {t : TypeId} {cs : Array Value} (hr : Blk wr r t cs) (hrb : r ≠ b) (hrp : r ≠ p) (hrl : r < base) (i : Nat) (u : Value) : Blk (w'.setCell ⟨p, i, none⟩ u) r t cs := by
  obtain ⟨G, h3, h4, h5, h6, h7⟩ := h
  have e1 := blk_gr hr hrb hd1.2
  have e2 := e1.below h2 e1.lt
  have e3 : Blk w' r t cs := (hg.block r e2.lt fun e => by have := (h4.own.lt r e.symm).1; omega).trans e2
  exact blk_gr e3 hrp (Gr.set p w' i u)
theorem VAt.app {w wr w1 w2 w' : World} {b p base : Nat} {A : Option Addr} {cap : Nat} {code : List UInt8} {k n x : Int} {s : ByteArray} {es : List Ent} {B : Option Addr} {c : Nat} {xs : List Ent} {F : List Nat} {g c' : Nat}
    (hm : VAt w b p base A cap code k n x s es B c wr) (hb : b < w.heap.size) (hbase : w.heap.size ≤ base) (hbw : base ≤ wr.heap.size) (hp : w.heap.size ≤ p) (hl : kidsLie w1 xs F) (hnd : F.Nodup) (hF : ∀ x ∈ F, wr.heap.size ≤ x) (hd1 : Drawn wr b A cap code w1) (h2 : Below w1.heap.size w1 w2)
    (hown' : w'.ownsRow base 43 5 (.slice (some ⟨g, 0, none⟩) (es.length + xs.length) c') (es.length + xs.length) (flat es ++ flat xs)) (hg : w2.grownBy w' (Value.slice B es.length c).ownBlock) (hat : (Value.slice B es.length c).ownBlock = some g ∨ g = w2.heap.size) :
    VAt w b p base A cap code k n x s (es ++ xs) (some ⟨g, 0, none⟩) c' (w'.setCell ⟨p, 4, none⟩ (.slice (some ⟨g, 0, none⟩) (es.length + xs.length) c')) := by
  have hfar := hm.far (by omega) hd1 h2 hg
  obtain ⟨G, h3, h4, h5, h6, h7⟩ := hm
  have hpl := h3.lt
  have r1 := h4.gr hd1.2 (by omega)
  have hlt := h4.lt
  have r2 := r1.pushN hl hnd (fun x hx => by have := hF x hx; omega) (fun x hx hG => by have := hlt x hG; have := hF x hx; omega)
    (fun g hg' hx => by have := (h4.own.lt g hg').2; have := hF g hx; omega) h2 hown' hg (by
      rcases hat with e | e
      · exact .inl e.symm
      · exact .inr (by rw [← e]; rfl))
  have hpG : p ∉ G ++ F := fun hx => by
    rcases List.mem_append.1 hx with hx | hx
    · exact h5 hx
    · have := hF p hx; omega
  have hpo : ∀ g', (Value.slice (some (⟨g, 0, none⟩ : Addr)) (es.length + xs.length) c').ownBlock = some g' → g' ≠ p := fun g' e => by
    have e' : g = g' := by injection e
    subst e'
    rcases hat with e2 | e2
    · exact h6 g e2
    · have := h2.size; have := hd1.2.size; omega
  refine ⟨G ++ F, ?_, ?_, hpG, ?_, ?_⟩
  · have h := hfar.set 4 (.slice (some ⟨g, 0, none⟩) (es.length + xs.length) c')
    rw [List.length_append]
    simpa using h
  · rw [List.length_append]
    exact r2.grx (Gr.set p w' 4 _) hpG hpo
  · rw [List.length_append]
    exact hpo
  · have hB : Below w.heap.size w2 w' := ⟨hg.os, hg.tape, hg.output, hg.size, fun k hk => hg.block k (by have := h7.2.size; have := hd1.2.size; have := h2.size; omega) (fun e => by have := (h4.own.lt k e.symm).1; omega)⟩
    have hz : w.heap.size ≤ w1.heap.size := Nat.le_trans h7.2.size hd1.2.size
    exact drawn_over (h7.trans hd1) hb (((h2.mono hz).trans hB).setCell (by show w.heap.size ≤ p; exact hp) _)
theorem RowOf.liesx {w : World} {base p : Nat} {B : Option Addr} {c : Nat} {es : List Ent} {G : List Nat} (h : RowOf w base (.slice B es.length c) es G) (h1 : p ∉ G) (h2 : ∀ g, (Value.slice B es.length c).ownBlock = some g → g ≠ p) :
    ∃ F, es.length ≤ c ∧ Vs.lies w (es.map (·.1)) B F ∧ F.Nodup ∧ (∀ x ∈ F, base ≤ x) ∧ p ∉ F := by
  have hown := h.own
  rcases hown.2 with ⟨e0, h0⟩ | ⟨g, c', cur, e0, k1, k2, k3, k4⟩
  · have he : es = [] := List.eq_nil_of_length_eq_zero h0
    subst he
    exact ⟨[], Nat.zero_le _, .inl ⟨rfl, rfl⟩, List.nodup_nil, (fun x hx => by cases hx), (fun hx => by cases hx)⟩
  · injection e0 with e1 e2 e3
    subst e1 e3
    refine ⟨g :: G, by omega, .inr ⟨g, G, rfl, rfl, (hown.lt g rfl).2, soft_own hown, ?_⟩, List.nodup_cons.2 ⟨h.apart g rfl, h.nodup⟩, fun x hx => ?_, fun hx => ?_⟩
    · refine kidsLie_cells es 0 G (fun q hq => ?_) h.kids
      rw [Nat.zero_add]
      exact hown.cellAt q (by omega)
    · rcases List.mem_cons.1 hx with rfl | hx
      · exact k1
      · exact h.low x hx
    · rcases List.mem_cons.1 hx with e | hx
      · exact h2 g rfl e.symm
      · exact h1 hx
/-- A value wrapped: a list with it as the only kid. -/
theorem VAt.wrap {w wr w8 : World} {b p base : Nat} {A : Option Addr} {cap : Nat} {code : List UInt8} {k n x : Int} {s : ByteArray} {es : List Ent} {B : Option Addr} {c : Nat} {N : Nat} (hm : VAt w b p base A cap code k n x s es B c wr) (hb : b < w.heap.size) (hbase : w.heap.size ≤ base) (hbw : base ≤ wr.heap.size) (hp : w.heap.size ≤ p) (hg : Gr p wr w8) (hB8 : Blk w8 p 43 #[.int .i64 7, .int .i64 0, .int .i64 0, .string ⟨#[]⟩, .slice (some ⟨N, 0, none⟩) 1 1]) (hz8 : w8.heap.size = N) :
    VAt w b p base A cap code 7 0 0 ⟨#[]⟩ [(V.mk k n x s (es.map (·.1)), B, c)] (some ⟨N, 0, none⟩) 1 (w8.alloc (.cells (flat [(V.mk k n x s (es.map (·.1)), B, c)]).toArray 43)) := by
  obtain ⟨G, h3, h4, h5, h6, h7⟩ := hm
  have hpl := h3.lt
  have hsz := hg.size
  obtain ⟨F, k1, k2, k3, k4, k5⟩ := h4.liesx h5 h6
  have hl8 : Vs.lies w8 (es.map (·.1)) B F := Vs.lies_same k2 ⟨hg.size, fun x hx => hg.block x (lies_lt k2 x hx) (by intro e; injection e with e; exact k5 (e ▸ hx))⟩
  have hk1 : kidsLie w8 [(V.mk k n x s (es.map (·.1)), B, c)] F := kidsLie_one (by show (es.map (·.1)).length ≤ _; simpa using k1) hl8
  have hr := row_fresh (base := base) [(V.mk k n x s (es.map (·.1)), B, c)] hk1 k3 (by simp) k4 (by omega)
  rw [hz8] at hr
  subst hz8
  refine ⟨F, hB8.alloc _, hr, k5, fun g hg' => ?_, drawn_over h7 hb ((hg.toBelow hp h7.2.size).alloc (by have := h7.2.size; omega) _)⟩
  have e' : w8.heap.size = g := by injection hg'
  omega
/-- The value's cells all stored anew: a value without kids. -/
theorem VAt.clean {w wr w8 : World} {b p base : Nat} {A : Option Addr} {cap : Nat} {code : List UInt8} {k n x : Int} {s : ByteArray} {es : List Ent} {B : Option Addr} {c : Nat} {k' : Int} (hm : VAt w b p base A cap code k n x s es B c wr) (hb : b < w.heap.size) (hp : w.heap.size ≤ p) (hg : Gr p wr w8) (hB8 : Blk w8 p 43 #[.int .i64 k', .int .i64 0, .int .i64 0, .string ⟨#[]⟩, .slice none 0 0]) : VAt w b p base A cap code k' 0 0 ⟨#[]⟩ [] none 0 w8 := by
  obtain ⟨G, h3, h4, h5, h6, h7⟩ := hm
  exact ⟨[], hB8, RowOf.none ⟨rfl, .inl ⟨rfl, rfl⟩⟩, (fun hx => by cases hx), (fun g e => by cases e), drawn_over h7 hb (hg.toBelow hp h7.2.size)⟩
theorem agg_row (k n x : Int) (s : ByteArray) (es : List Ent) (B : Option Addr) (c : Nat) : (V.mk k n x s (es.map (·.1))).agg B c = .agg #[.int .i64 k, .int .i64 n, .int .i64 x, .string s, .slice B es.length c] := by
  simp [V.agg, V.k, V.n, V.e, V.s, V.kids]
theorem fits_k {k n x : Int} {s : ByteArray} {ks : List V} (h : (V.mk k n x s ks).fits) (k' n' : Int) (hk : inI k') (hn : inI n') : (V.mk k' n' x s ks).fits := by
  rw [V.fits_eq] at h ⊢
  exact ⟨h.1, h.2.1, h.2.2.1, hk, hn, h.2.2.2.2.2⟩
theorem fits_n {k n x : Int} {s : ByteArray} {ks : List V} (h : (V.mk k n x s ks).fits) : inI k ∧ inI n := by
  rw [V.fits_eq] at h
  exact ⟨h.2.2.2.1, h.2.2.2.2.1⟩
theorem wt_k (k n x k' n' x' : Int) (s : ByteArray) (ks : List V) : (V.mk k n x s ks).weight = (V.mk k' n' x' s ks).weight := by simp [V.weight]
theorem agg_leaf (k n x : Int) (s : ByteArray) : (V.mk k n x s []).agg none 0 = .agg #[.int .i64 k, .int .i64 n, .int .i64 x, .string s, .slice none 0 0] := rfl
def anyN : List Int := [1, 10, -1, 1000001]
theorem anyN_in : ∀ z ∈ anyN, inI z := by
  intro z hz
  simp only [anyN, List.mem_cons, List.not_mem_nil, or_false] at hz
  unfold inI
  omega

set_option maxHeartbeats 16000000 in
theorem dAnyOf (hmk : MkSaid 3) (b : Nat) (A : Option Addr) (cap : Nat) (code : List UInt8) (w : World) (hc : Cur w b A cap code) :
    Calls Tryz.prog 113 #[.pointer (some ⟨b, 0, none⟩)] w fun e w' => DV 1400 w w b A cap code e w' := by
  have HMK := Lib.hid hmk
  clear hmk
  have hbw : b < w.heap.size := hc.lt
  have hpb : w.heap.size ≠ b := by omega
  have B1 := Lib.hid (Blk.new w 43 #[.int .i64 0, .int .i64 0, .int .i64 0, .string ⟨#[]⟩, .slice none 0 0])
  have D1 := Lib.hid (Drawn.alloc hc (.cells #[.int .i64 0, .int .i64 0, .int .i64 0, .string ⟨#[]⟩, .slice none 0 0] 43))
  have Z1 : Hid ((w.alloc (.cells #[.int .i64 0, .int .i64 0, .int .i64 0, .string ⟨#[]⟩, .slice none 0 0] 43)).heap.size = w.heap.size + 1) := Lib.hid (by simp)
  clear hc
  go_enter Tryz.func113, Tryz.ntmps113
  go_wp2_with fail
  refine Calls.atW (fun w1 => Hid (Blk w1 w.heap.size 43 #[.int .i64 0, .int .i64 0, .int .i64 0, .string ⟨#[]⟩, .slice none 0 0]) ∧ Hid (Drawn w b A cap code w1) ∧ w1.heap.size = w.heap.size + 1) ⟨B1, D1, Z1.out⟩ ?_
  clear B1 D1 Z1
  rintro w1 ⟨B1, D1, Z1⟩
  refine (dOnce 3 b A cap code w1 (by omega) (by omega) D1.out.1).mono ?_
  rintro e w2 ⟨⟨r, rfl⟩, hd2⟩
  have D2 := Lib.hid (D1.out.trans hd2)
  have B2 := Lib.hid (res_cells B1.out hpb hd2.2)
  have hb2 : w.heap.size < w2.heap.size := B2.out.lt
  clear hd2 B1 D1 Z1
  go_wp2_with fail
  refine (HMK.out r b A cap code w2 D2.out.1).mono ?_
  rintro e w3 ⟨k, n, x, s, es, B, c, G, rfl, h1, h2, h4, h7⟩
  rw [agg_row]
  have H1 := Lib.hid h1
  have h22 : (V.mk k n x s (es.map (·.1))).weight ≤ 1008 := h2
  have H2 := Lib.hid h22
  have H4 := Lib.hid h4
  have D3 := Lib.hid (D2.out.trans h7)
  have B3 := Lib.hid (res_cells B2.out hpb h7.2)
  have hb3 : w2.heap.size ≤ w3.heap.size := h7.2.size
  have hne : ¬ w3.heap.size = w.heap.size := by omega
  have hne2 : ¬ w.heap.size = w3.heap.size := by omega
  clear h1 h2 h22 h4 h7 B2 D2
  go_wp2_with fail
  refine Calls.atW (fun w4 => Hid (Blk w4 w.heap.size 43 #[.int .i64 0, .int .i64 0, .int .i64 0, .string ⟨#[]⟩, .slice none 0 0]) ∧ Hid (VAt w b w3.heap.size w2.heap.size A cap code k n x s es B c w4)) ⟨Lib.hid (B3.out.alloc _), Lib.hid (VAt.start H4.out D3.out)⟩ ?_
  clear B3 H4 D3
  rintro w4 ⟨B4, VA4⟩
  refine (dBelow 24 b A cap code w4 (by omega) (by omega) VA4.out.drawn.1).mono ?_
  rintro e w5 ⟨⟨q, hq, rfl⟩, hd5⟩
  have VA5 := Lib.hid (VA4.out.gr (by omega) (by omega) hd5)
  have B5 := Lib.hid (res_cells B4.out hpb hd5.2)
  clear hd5 VA4 B4
  rcases (show q = 0 ∨ q = 1 ∨ q = 2 ∨ q = 3 ∨ q = 4 ∨ q = 5 ∨ 5 < q by omega) with rfl | rfl | rfl | rfl | rfl | rfl | hq5
  · go_wp2_with fail
    refine (dBelow 12 b A cap code w5 (by omega) (by omega) VA5.out.drawn.1).mono ?_
    rintro e w6 ⟨⟨z, hz, rfl⟩, hd6⟩
    have VA6 := Lib.hid (VA5.out.gr (by omega) (by omega) hd6)
    have B6 := Lib.hid (res_cells B5.out hpb hd6.2)
    clear hd6 VA5 B5
    have HC := Lib.hid VA6.out.blk
    have HCB := HC.out
    obtain ⟨r0, r1, r2, r3, r4⟩ := HCB.five
    have g0 := HCB.frozen 0
    have g1 := HCB.frozen 1
    clear HCB
    have B9 := B6.out
    obtain ⟨p0, p1, p2, p3, p4⟩ := B9.five
    have f0 := B9.frozen 0
    have f1 := B9.frozen 1
    have f2 := B9.frozen 2
    have f3 := B9.frozen 3
    have f4 := B9.frozen 4
    clear B9
    go_wp2_with fail
    refine bodyPost_ret (v := .agg #[.int .i64 ((z : Int) - 1), .int .i64 n, .int .i64 x, .string s, .slice B es.length c]) (by simp [results, Tryz.results113, go_sem, p0, p1, p2, p3, p4, r0, r1, r2, r3, r4, hne, hne2]) rfl (VAt.res (r := w.heap.size) (VA6.out.set (k' := ((z : Int) - 1)) (n' := n) (x' := x) (s' := s) hbw (by omega) 0 (.int .i64 ((z : Int) - 1)) (by simp)) (by rw [agg_row]) (fits_k H1.out _ _ (by unfold inI; omega) (fits_n H1.out).2) (by rw [wt_k _ _ _ k n x]; have := H2.out; omega) hb2 (Nat.le_refl _) hbw ?hd)
    case hd => repeat (first | exact Gr.refl _ _ | (refine Gr.trans ?_ (Gr.set _ _ _ _)))
  · go_wp2_with fail
    refine (dPickIntNew anyN b A cap code _ (by decide) (by decide) VA5.out.drawn.1).mono ?_
    rintro e w6 ⟨⟨z, hz, rfl⟩, hd6⟩
    have hz2 := anyN_in z hz
    have VA6 := Lib.hid (VA5.out.gr (by omega) (by omega) hd6)
    have B6 := Lib.hid (res_cells B5.out hpb hd6.2)
    clear hd6 VA5 B5 hz
    have HC := Lib.hid VA6.out.blk
    have HCB := HC.out
    obtain ⟨r0, r1, r2, r3, r4⟩ := HCB.five
    have g0 := HCB.frozen 0
    have g1 := HCB.frozen 1
    clear HCB
    have B9 := B6.out
    obtain ⟨p0, p1, p2, p3, p4⟩ := B9.five
    have f0 := B9.frozen 0
    have f1 := B9.frozen 1
    have f2 := B9.frozen 2
    have f3 := B9.frozen 3
    have f4 := B9.frozen 4
    clear B9
    go_wp2_with fail
    refine bodyPost_ret (v := .agg #[.int .i64 k, .int .i64 z, .int .i64 x, .string s, .slice B es.length c]) (by simp [results, Tryz.results113, go_sem, p0, p1, p2, p3, p4, r0, r1, r2, r3, r4, hne, hne2]) rfl (VAt.res (r := w.heap.size) (VA6.out.set (k' := k) (n' := z) (x' := x) (s' := s) hbw (by omega) 1 (.int .i64 z) (by simp)) (by rw [agg_row]) (fits_k H1.out _ _ (fits_n H1.out).1 hz2) (by rw [wt_k _ _ _ k n x]; have := H2.out; omega) hb2 (Nat.le_refl _) hbw ?hd)
    case hd => repeat (first | exact Gr.refl _ _ | (refine Gr.trans ?_ (Gr.set _ _ _ _)))
  · have hnodes : es.length ≤ 1008 := by
      have hw2 := H2.out
      rw [V.weight_eq] at hw2
      have hlen := Vs.len_le (es.map (·.1))
      rw [List.length_map] at hlen
      have : Vs.weight (V.mk k n x s (es.map (·.1))).kids = Vs.weight (es.map (·.1)) := rfl
      omega
    have HMD := Lib.hid (VA5.out.drawn.1.drew)
    have HC := Lib.hid VA5.out.blk
    have HCB := HC.out
    obtain ⟨r0, r1, r2, r3, r4⟩ := HCB.five
    have g4 := HCB.frozen 4
    clear HCB
    obtain ⟨i0, hi, hz0, hz1, hz2⟩ := info_parts infoV
    go_wp2_with fail
    go_region_law (first
      | (refine step_append_lies _ (by rfl) (.tmp 29) (.tmp 32) 41 (by rfl) w2.heap.size 43 i0 _ 5 64 Tryz.underlying41 hi hz0 hz1 hz2 (by rfl) (by omega) (.slice B es.length c) es.length (flat es) (by rfl) (HO.out.alloc _) ⟨w6.heap.size, 0, none⟩ 1 1 (Ent.cells (v', B', c')) (by rfl) (by rfl) HN.out (ent_ones' _) (by omega) (by unfold maxLen; omega) (by omega) (by simp; omega) _ rfl ?_
         intro g c2 w8 hown' hgr hat hlt'
         have B8 := Lib.hid (VA5.out.far (by omega) HD6.out ((Below.refl _ _).alloc (Nat.le_refl _) _) hgr)
         have s4 := (B8.out.five).2.2.2.2
         have e4 := B8.out.frozen 4)
      | (go_simp
         go_at_call 154
         refine (dLeaf false b A cap code _ HMD.out).mono ?_
         intro e w6 hdv; obtain ⟨v', B', c', F', rfl, h1, h2, h3, h4, h5, h6, h7⟩ := hdv.opened
         have HD6 := Lib.hid (Drawn.undrew h7)
         have HO := Lib.hid (VA5.out.own (by omega) HD6.out.2)
         have HN := Lib.hid (cells_new w6 (Ent.cells (v', B', c')).toArray 43)
         have L1 := Lib.hid h1
         have L2 := Lib.hid h2
         have L4 := Lib.hid h4
         have L5 := Lib.hid h5
         have L6 := Lib.hid h6
         have B6 := Lib.hid (VA5.out.gr (by omega) (by omega) HD6.out).blk
         have s4 := (B6.out.five).2.2.2.2
         have hwz : w3.heap.size < w6.heap.size := B6.out.lt
         clear h1 h2 h4 h5 h6 h7
         unfold V.agg))
    all_goals
      have VAW := Lib.hid (VA5.out.app (xs := [(v', B', c')]) hbw (by omega) (by have := HC.out.lt; omega) (by omega) (kidsLie_one h3 L4.out) L5.out (fun x hx => L6.out x hx) HD6.out ((Below.refl _ _).alloc (Nat.le_refl _) _) (by simpa [flat] using hown') hgr hat)
      have BW := Lib.hid (VA5.out.other HD6.out ((Below.refl _ _).alloc (Nat.le_refl _) _) hgr B5.out hpb (by omega) hb2 4 (.slice (some ⟨g, 0, none⟩) (es.length + 1) c2))
      clear HO HN hown' hgr hat
      obtain ⟨W, hW⟩ : ∃ W, W = w8.setCell ⟨w3.heap.size, 4, none⟩ (.slice (some ⟨g, 0, none⟩) (es.length + 1) c2) := ⟨_, rfl⟩
      simp only [List.length_cons, List.length_nil, Nat.zero_add] at VAW
      rw [← hW] at VAW BW ⊢
      clear hW
      have HC := Lib.hid VAW.out.blk
      have HCB := HC.out
      obtain ⟨r0, r1, r2, r3, r4⟩ := HCB.five
      clear HCB
      have B9 := BW.out
      obtain ⟨p0, p1, p2, p3, p4⟩ := B9.five
      have f0 := B9.frozen 0
      have f1 := B9.frozen 1
      have f2 := B9.frozen 2
      have f3 := B9.frozen 3
      have f4 := B9.frozen 4
      clear B9
      go_wp2_with fail
      refine bodyPost_ret (v := .agg #[.int .i64 k, .int .i64 n, .int .i64 x, .string s, .slice (some ⟨g, 0, none⟩) (es ++ [(v', B', c')]).length c2]) (by simp [results, Tryz.results113, go_sem, p0, p1, p2, p3, p4, r0, r1, r2, r3, r4, hne, hne2]) rfl (VAt.res (r := w.heap.size) VAW.out (by rw [agg_row]) ?hf ?hw hb2 (Nat.le_refl _) hbw ?hd)
      case hd => repeat (first | exact Gr.refl _ _ | (refine Gr.trans ?_ (Gr.set _ _ _ _)))
      case hf => rw [V.fits_eq]; exact ⟨(V.fits_eq _ |>.1 H1.out).1, by show (List.map (·.1) (es ++ [(v', B', c')])).length ≤ _; simp; omega, by show Vs.fits (List.map (·.1) (es ++ [(v', B', c')])); rw [List.map_append]; exact Vs.fits_app _ _ (V.fits_eq _ |>.1 H1.out).2.2.1 (by simp only [List.map_cons, List.map_nil, Vs.fits]; exact ⟨L1.out, trivial⟩), (V.fits_eq _ |>.1 H1.out).2.2.2⟩
      case hw => have e1 := H2.out; have e2 := L2.out; rw [V.weight_eq] at e1 ⊢; show s.size + Vs.weight (List.map (·.1) (es ++ [(v', B', c')])) ≤ _; rw [List.map_append, Vs.weight_app]; simp only [List.map_cons, List.map_nil, Vs.weight]; have e3 : s.size + Vs.weight (es.map (·.1)) ≤ 1008 := e1; omega
  · go_wp2_with fail
    refine (drawStr ⟨#[97]⟩ w5).mono ?_
    rintro e w6 ⟨rfl, hb6⟩
    rw [agg_leaf]
    go_wp2_with fail
    refine (drawInt 1 w6).mono ?_
    rintro e w7 ⟨rfl, hb7⟩
    rw [agg_leaf]
    go_wp2_with fail
    refine (drawStr ⟨#[97]⟩ w7).mono ?_
    rintro e w8 ⟨rfl, hb8⟩
    rw [agg_leaf]
    go_wp2_with fail
    refine (drawInt 2 w8).mono ?_
    rintro e w9 ⟨rfl, hb9⟩
    rw [agg_leaf]
    have D6 := Lib.hid (VA5.out.drawn.trans (Drawn.of VA5.out.drawn.1 hb6))
    have D7 := Lib.hid (D6.out.trans (Drawn.of D6.out.1 hb7))
    have D8 := Lib.hid (D7.out.trans (Drawn.of D7.out.1 hb8))
    have D9 := Lib.hid (D8.out.trans (Drawn.of D8.out.1 hb9))
    have B9 := Lib.hid ((((B5.out.below hb6 B5.out.lt).below hb7 (B5.out.below hb6 B5.out.lt).lt).below hb8 ((B5.out.below hb6 B5.out.lt).below hb7 (B5.out.below hb6 B5.out.lt).lt).lt).below hb9 (((B5.out.below hb6 B5.out.lt).below hb7 (B5.out.below hb6 B5.out.lt).lt).below hb8 ((B5.out.below hb6 B5.out.lt).below hb7 (B5.out.below hb6 B5.out.lt).lt).lt).lt)
    have HZ9 : w.heap.size < w9.heap.size := B9.out.lt
    have HKL : Hid (kidsLie w9 [(V.mk 5 0 0 ⟨#[97]⟩ [], none, 0), (V.mk 3 1 0 ⟨#[]⟩ [], none, 0), (V.mk 5 0 0 ⟨#[97]⟩ [], none, 0), (V.mk 3 2 0 ⟨#[]⟩ [], none, 0)] []) := Lib.hid (by simp [kidsLie, V.lies, V.kids])
    clear hb6 hb7 hb8 hb9 D6 D7 D8 VA5 B5
    have B10 := B9
    clear B9
    have B9 := B10.out
    obtain ⟨p0, p1, p2, p3, p4⟩ := B9.five
    have f0 := B9.frozen 0
    have f1 := B9.frozen 1
    have f2 := B9.frozen 2
    have f3 := B9.frozen 3
    have f4 := B9.frozen 4
    clear B9
    go_wp2_with fail
    refine bodyPost_ret (v := .agg #[.int .i64 8, .int .i64 0, .int .i64 0, .string ⟨#[]⟩, .slice (some ⟨w9.heap.size, 0, none⟩) 4 4]) (by simp [results, Tryz.results113, go_sem, p0, p1, p2, p3, p4, HZ9]) rfl (DV.row (k := 8) (n := 0) (x := 0) (s := ⟨#[]⟩) (es := [(V.mk 5 0 0 ⟨#[97]⟩ [], none, 0), (V.mk 3 1 0 ⟨#[]⟩ [], none, 0), (V.mk 5 0 0 ⟨#[97]⟩ [], none, 0), (V.mk 3 2 0 ⟨#[]⟩ [], none, 0)]) (F := []) (p := w.heap.size) rfl ?hf ?hw HKL.out List.nodup_nil (fun x hx => by cases hx) (Nat.le_refl _) HZ9 D9.out hbw ?hd (by simp) rfl (by simp))
    case hf => simp only [V.fits_eq, V.kids, V.k, V.n, V.e, V.s, List.map_cons, List.map_nil, Vs.fits, inI]; decide
    case hw => simp only [V.weight_eq, V.kids, V.s, List.map_cons, List.map_nil, Vs.weight]; decide
    case hd => repeat (first | exact Gr.refl _ _ | (refine Gr.trans ?_ (Gr.set _ _ _ _)))
  · go_wp2_with fail
    refine (dBelow 3 b A cap code w5 (by omega) (by omega) VA5.out.drawn.1).mono ?_
    rintro e w6 ⟨⟨z, hz, rfl⟩, hd6⟩
    have VA6 := Lib.hid (VA5.out.gr (by omega) (by omega) hd6)
    have B6 := Lib.hid (res_cells B5.out hpb hd6.2)
    clear hd6 VA5 B5
    go_wp2_with fail
    go_loopw [5] (fun i wr => ∃ (j : Nat) (k n x : Int) (s : ByteArray) (es : List Ent) (B : Option Addr) (c : Nat), i = .int .i64 (j : Int) ∧ j ≤ 11 + z ∧ Hid (VAt w b w3.heap.size w2.heap.size A cap code k n x s es B c wr) ∧ Hid ((V.mk k n x s (es.map (·.1))).fits) ∧ Hid ((V.mk k n x s (es.map (·.1))).weight ≤ 1008 + j) ∧ Hid (Blk wr w.heap.size 43 #[.int .i64 0, .int .i64 0, .int .i64 0, .string ⟨#[]⟩, .slice none 0 0])) (fun i _ => 11 + z - (intOf i).toNat)
    case atStart => exact ⟨0, k, n, x, s, es, B, c, rfl, Nat.zero_le _, VA6, H1, H2, B6⟩
    case round =>
      obtain ⟨j, k, n, x, s, es, B, c, rfl, hj, HV, HF, HW, HB⟩ := hrel
      by_cases hlt : j < 11 + z
      · have hlt2 : (j : Int) < 11 + (z : Int) := by omega
        have HC := Lib.hid HV.out.blk
        have B9 := HC.out
        obtain ⟨r0, r1, r2, r3, r4⟩ := B9.five
        have g0 := B9.frozen 0
        have g1 := B9.frozen 1
        have g2 := B9.frozen 2
        have g3 := B9.frozen 3
        have g4 := B9.frozen 4
        clear B9
        have HZ3 : w3.heap.size < wr.heap.size := HC.out.lt
        go_wp2_with fail
        go_roundw
        case rel =>
          refine ⟨j + 1, 7, 0, 0, ⟨#[]⟩, [(V.mk k n x s (es.map (·.1)), B, c)], some ⟨wr.heap.size, 0, none⟩, 1, by go_num, by omega, Lib.hid ?va, Lib.hid ?hf, Lib.hid ?hw, Lib.hid ?hb⟩
          case va =>
            obtain ⟨W8, hW8⟩ : ∃ W8, W8 = (((((wr.setCell ⟨w3.heap.size, 0, none⟩ (.int .i64 7)).setCell ⟨w3.heap.size, 1, none⟩ (.int .i64 0)).setCell ⟨w3.heap.size, 2, none⟩ (.int .i64 0)).setCell ⟨w3.heap.size, 3, none⟩ (.string ⟨#[]⟩)).setCell ⟨w3.heap.size, 4, none⟩ (.slice (some ⟨wr.heap.size, 0, none⟩) 1 1)) := ⟨_, rfl⟩
            have hg8 : Gr w3.heap.size wr W8 := by
              rw [hW8]
              repeat (first | exact Gr.refl _ _ | (refine Gr.trans ?_ (Gr.set _ _ _ _)))
            have hB8 : Blk W8 w3.heap.size 43 #[.int .i64 7, .int .i64 0, .int .i64 0, .string ⟨#[]⟩, .slice (some ⟨wr.heap.size, 0, none⟩) 1 1] := by
              rw [hW8]
              have h := ((((HC.out.set 0 (.int .i64 7)).set 1 (.int .i64 0)).set 2 (.int .i64 0)).set 3 (.string ⟨#[]⟩)).set 4 (.slice (some ⟨wr.heap.size, 0, none⟩) 1 1)
              simpa using h
            have hz8 : W8.heap.size = wr.heap.size := by rw [hW8]; simp
            have hfl : (flat [(V.mk k n x s (es.map (·.1)), B, c)]).toArray = #[.int .i64 k, .int .i64 n, .int .i64 x, .string s, .slice B es.length c] := by simp [flat, Ent.cells, V.k, V.n, V.e, V.s, V.kids]
            have h := HV.out.wrap hbw (by omega) (by omega) (by omega) hg8 hB8 hz8
            rw [hfl] at h
            rw [← hW8]
            exact h
          case hf => exact (V.fits_eq _).2 ⟨by show (0 : Nat) ≤ _; omega, by show (1 : Nat) ≤ _; omega, by show Vs.fits [_]; simp only [Vs.fits]; exact ⟨HF.out, trivial⟩, by show inI 7; unfold inI; omega, by show inI 0; unfold inI; omega, by show inI 0; unfold inI; omega⟩
          case hw => rw [V.weight_eq]; show 0 + Vs.weight [_] ≤ _; simp only [Vs.weight]; have := HW.out; omega
          case hb =>
            refine Blk.alloc (blk_gr HB.out (b := w3.heap.size) hne2 ?_) _
            repeat (first | exact Gr.refl _ _ | (refine Gr.trans ?_ (Gr.set _ _ _ _)))
        case measure => simp [intOf]; omega
      · have hjz : j ≤ 24 := by omega
        have hge : 11 + (z : Int) ≤ (j : Int) := by omega
        have hge2 : ¬ (j : Int) < 11 + (z : Int) := by omega
        clear hlt hj
        have HC := Lib.hid HV.out.blk
        have HCB := HC.out
        obtain ⟨r0, r1, r2, r3, r4⟩ := HCB.five
        clear HCB
        have B9 := HB.out
        obtain ⟨p0, p1, p2, p3, p4⟩ := B9.five
        have f0 := B9.frozen 0
        have f1 := B9.frozen 1
        have f2 := B9.frozen 2
        have f3 := B9.frozen 3
        have f4 := B9.frozen 4
        clear B9
        go_wp2_with fail
        refine bodyPost_ret (v := .agg #[.int .i64 k, .int .i64 n, .int .i64 x, .string s, .slice B es.length c]) (by simp [results, Tryz.results113, go_sem, p0, p1, p2, p3, p4, r0, r1, r2, r3, r4, hne, hne2]) rfl (VAt.res (r := w.heap.size) HV.out (by rw [agg_row]) HF.out (by have := HW.out; omega) hb2 (Nat.le_refl _) hbw ?hd)
        case hd => repeat (first | exact Gr.refl _ _ | (refine Gr.trans ?_ (Gr.set _ _ _ _)))
  · have HC6 := Lib.hid VA5.out.blk
    go_wp2_with fail
    refine (dBelow 3 b A cap code w5 (by omega) (by omega) VA5.out.drawn.1).mono ?_
    rintro e w6 ⟨⟨z, hz, rfl⟩, hd6⟩
    have VA6 := Lib.hid (VA5.out.gr (by omega) (by omega) hd6)
    have B6 := Lib.hid (res_cells B5.out hpb hd6.2)
    clear hd6 VA5 B5 HC6
    have HC := Lib.hid VA6.out.blk
    have B9 := HC.out
    obtain ⟨r0, r1, r2, r3, r4⟩ := B9.five
    have g0 := B9.frozen 0
    have g1 := B9.frozen 1
    have g2 := B9.frozen 2
    have g3 := B9.frozen 3
    have g4 := B9.frozen 4
    clear B9
    have HZ3 : w3.heap.size < w6.heap.size := HC.out.lt
    go_wp2_with fail
    clear r0 r1 r2 r3 r4 g0 g1 g2 g3 g4
    go_loopw [7] (fun i wr => ∃ (j : Nat) (es : List Ent) (B : Option Addr) (c : Nat), i = .int .i64 (j : Int) ∧ j ≤ 298 + z ∧ Hid (es.length = j) ∧ Hid (VAt w b w3.heap.size w2.heap.size A cap code 7 0 0 ⟨#[]⟩ es B c wr) ∧ Hid (Vs.fits (es.map (·.1)) ∧ Vs.weight (es.map (·.1)) ≤ j) ∧ Hid (Blk wr w.heap.size 43 #[.int .i64 0, .int .i64 0, .int .i64 0, .string ⟨#[]⟩, .slice none 0 0])) (fun i _ => 298 + z - (intOf i).toNat)
    case atStart =>
      refine ⟨0, [], none, 0, rfl, Nat.zero_le _, Lib.hid rfl, Lib.hid (VA6.out.clean hbw (by omega) ?gr ?blk), Lib.hid ⟨by simp [Vs.fits], by simp [Vs.weight]⟩, Lib.hid (blk_gr B6.out (b := w3.heap.size) hne2 ?gr2)⟩
      case gr => repeat (first | exact Gr.refl _ _ | (refine Gr.trans ?_ (Gr.set _ _ _ _)))
      case gr2 => repeat (first | exact Gr.refl _ _ | (refine Gr.trans ?_ (Gr.set _ _ _ _)))
      case blk =>
        have h := ((((HC.out.set 0 (.int .i64 7)).set 1 (.int .i64 0)).set 2 (.int .i64 0)).set 3 (.string ⟨#[]⟩)).set 4 (.slice none 0 0)
        simpa using h
    case round =>
      obtain ⟨j, es, B, c, rfl, hj, HEL, HV, HW, HB⟩ := hrel
      by_cases hlt : j < 298 + z
      · have hlt2 : (j : Int) < 298 + (z : Int) := by omega
        have HC := Lib.hid HV.out.blk
        have HCB := HC.out
        obtain ⟨r0, r1, r2, r3, r4⟩ := HCB.five
        have g4 := HCB.frozen 4
        clear HCB
        have HZ3 : w3.heap.size < wr.heap.size := HC.out.lt
        have hsm : es.length ≤ 1000 := by have := HEL.out; omega
        have HO := Lib.hid (HV.out.own (by omega) (Gr.refl b wr))
        have HN := Lib.hid (cells_new wr (Ent.cells (V.mk 0 0 0 ⟨#[]⟩ [], none, 0)).toArray 43)
        obtain ⟨i0, hi, hz0, hz1, hz2⟩ := info_parts infoV
        go_wp2_with (at_builtin; refine wpList_append_lies _ (by rfl) (.tmp 68) (.tmp 70) 41 (by rfl) w2.heap.size 43 i0 _ 5 64 Tryz.underlying41 hi hz0 hz1 hz2 (by rfl) (by omega) (.slice B es.length c) es.length (flat es) (by rfl) (HO.out.alloc _) ⟨wr.heap.size, 0, none⟩ 1 1 (Ent.cells (V.mk 0 0 0 ⟨#[]⟩ [], none, 0)) (by rfl) (by rfl) HN.out (ent_ones' _) (by omega) (by unfold maxLen; omega) (by omega) (by simp; omega) _ rfl ?_; intro g c2 w8 hown' hgr hat hlt'; have B8 := Lib.hid (HV.out.far (by omega) (Drawn.refl HV.out.drawn.1) ((Below.refl _ _).alloc (Nat.le_refl _) _) hgr); have s4 := (B8.out.five).2.2.2.2; have e4 := B8.out.frozen 4)
        go_roundw
        case rel =>
          have VAW := HV.out.app (xs := [(V.mk 0 0 0 ⟨#[]⟩ [], none, 0)]) (F := []) hbw (by omega) (by omega) (by omega) (kidsLie_one (Nat.le_refl 0) (.inl ⟨rfl, rfl⟩)) List.nodup_nil (fun x hx => by cases hx) (Drawn.refl HV.out.drawn.1) ((Below.refl _ _).alloc (Nat.le_refl _) _) (by simpa [flat] using hown') hgr hat
          refine ⟨j + 1, es ++ [(V.mk 0 0 0 ⟨#[]⟩ [], none, 0)], some ⟨g, 0, none⟩, c2, by go_num, by omega, Lib.hid (by rw [List.length_append, HEL.out]; rfl), Lib.hid VAW, Lib.hid ⟨?_, ?_⟩, Lib.hid (HV.out.other (Drawn.refl HV.out.drawn.1) ((Below.refl _ _).alloc (Nat.le_refl _) _) hgr HB.out hpb hne2 hb2 4 _)⟩
          · rw [List.map_append]; exact Vs.fits_app _ _ HW.out.1 (by simp only [List.map_cons, List.map_nil, Vs.fits, V.fits_eq, V.kids, V.k, V.n, V.e, V.s, inI]; decide)
          · rw [List.map_append, Vs.weight_app]; simp only [List.map_cons, List.map_nil, Vs.weight, V.weight]; have := HW.out.2; show _ + (0 + 0 + 1 + 0) ≤ _; omega
        case measure => simp [intOf]; omega
      · have hjz : j ≤ 300 := by omega
        have hel3 : es.length ≤ 300 := by have := HEL.out; omega
        have hge : 298 + (z : Int) ≤ (j : Int) := by omega
        have hge2 : ¬ (j : Int) < 298 + (z : Int) := by omega
        clear hlt hj
        have HC := Lib.hid HV.out.blk
        have HCB := HC.out
        obtain ⟨r0, r1, r2, r3, r4⟩ := HCB.five
        clear HCB
        have B9 := HB.out
        obtain ⟨p0, p1, p2, p3, p4⟩ := B9.five
        have f0 := B9.frozen 0
        have f1 := B9.frozen 1
        have f2 := B9.frozen 2
        have f3 := B9.frozen 3
        have f4 := B9.frozen 4
        clear B9
        go_wp2_with fail
        refine bodyPost_ret (v := .agg #[.int .i64 7, .int .i64 0, .int .i64 0, .string ⟨#[]⟩, .slice B es.length c]) (by simp [results, Tryz.results113, go_sem, p0, p1, p2, p3, p4, r0, r1, r2, r3, r4, hne, hne2]) rfl (VAt.res (r := w.heap.size) HV.out (by rw [agg_row]) ?hf ?hw hb2 (Nat.le_refl _) hbw ?hd)
        case hd => repeat (first | exact Gr.refl _ _ | (refine Gr.trans ?_ (Gr.set _ _ _ _)))
        case hf => exact (V.fits_eq _).2 ⟨by show (0 : Nat) ≤ _; omega, by show (es.map (·.1)).length ≤ _; simp; omega, HW.out.1, by show inI 7; unfold inI; omega, by show inI 0; unfold inI; omega, by show inI 0; unfold inI; omega⟩
        case hw => rw [V.weight_eq]; show 0 + Vs.weight (es.map (·.1)) ≤ _; have := HW.out.2; omega
  · have q0 : ((q : Int) == 0) = false := by rw [beq_eq_false_iff_ne]; omega
    have q1 : ((q : Int) == 1) = false := by rw [beq_eq_false_iff_ne]; omega
    have q2 : ((q : Int) == 2) = false := by rw [beq_eq_false_iff_ne]; omega
    have q3 : ((q : Int) == 3) = false := by rw [beq_eq_false_iff_ne]; omega
    have q4 : ((q : Int) == 4) = false := by rw [beq_eq_false_iff_ne]; omega
    have q5 : ((q : Int) == 5) = false := by rw [beq_eq_false_iff_ne]; omega
    have n0 : ¬ (q : Int) = 0 := by omega
    have n1 : ¬ (q : Int) = 1 := by omega
    have n2 : ¬ (q : Int) = 2 := by omega
    have n3 : ¬ (q : Int) = 3 := by omega
    have n4 : ¬ (q : Int) = 4 := by omega
    have n5 : ¬ (q : Int) = 5 := by omega
    have HC := Lib.hid VA5.out.blk
    have HCB := HC.out
    obtain ⟨r0, r1, r2, r3, r4⟩ := HCB.five
    clear HCB
    have B9 := B5.out
    obtain ⟨p0, p1, p2, p3, p4⟩ := B9.five
    have f0 := B9.frozen 0
    have f1 := B9.frozen 1
    have f2 := B9.frozen 2
    have f3 := B9.frozen 3
    have f4 := B9.frozen 4
    clear B9
    go_wp2_with fail
    refine bodyPost_ret (v := .agg #[.int .i64 k, .int .i64 n, .int .i64 x, .string s, .slice B es.length c]) (by simp [results, Tryz.results113, go_sem, p0, p1, p2, p3, p4, r0, r1, r2, r3, r4, hne, hne2]) rfl (VAt.res (r := w.heap.size) VA5.out (by rw [agg_row]) H1.out (by have := H2.out; omega) hb2 (Nat.le_refl _) hbw ?hd)
    case hd => repeat (first | exact Gr.refl _ _ | (refine Gr.trans ?_ (Gr.set _ _ _ _)))
end Go.Proofs.YtbfddabljkoapaaGreatDoor

/-
  The reference's tests of a value: a number times ten, keys of pairs.
-/
namespace Go.Proofs.YtbfddabljkoapaaGreatDoor
open Go.RowKit
set_option linter.unusedVariables false
set_option maxRecDepth 100000

theorem tens_step (n : Int) (k : Nat) (h : inR (n * 10)) : tens n (k + 1) = tens (n * 10) k := by
  conv => lhs; unfold tens
  rw [if_pos h]
theorem tens_stop (n : Int) (k : Nat) (h : ¬ inR (n * 10)) : tens n (k + 1) = none := by
  unfold tens
  rw [if_neg h]

theorem wrap_tdiv (y : Int) : wrap64 (Int.tdiv (wrap64 y) 10) = Int.tdiv (wrap64 y) 10 := by
  have h1 := wrap64_eq y
  have h2 := Int.tmod_add_mul_tdiv (wrap64 y) 10
  have h3 : -10 < Int.tmod (wrap64 y) 10 ∧ Int.tmod (wrap64 y) 10 < 10 := by
    constructor
    · have := Int.lt_tmod_of_pos (wrap64 y) (show (0 : Int) < 10 by omega); omega
    · exact Int.tmod_lt_of_pos _ (by omega)
  rw [wrap64_eq (Int.tdiv _ _)]
  omega
theorem inR_div {x : Int} (h : inR (x * 10)) : wrap64 (x * 10) = x * 10 ∧ Int.tdiv (x * 10) 10 = x := by
  unfold inR at h
  exact ⟨by rw [wrap64_eq]; omega, Int.mul_tdiv_cancel _ (by omega)⟩

set_option maxHeartbeats 1000000 in
theorem specWhole_pos (n : Int) (m : Nat) (w : World) (hn : inR n) (hm : 0 < m) (hm2 : m ≤ 20) :
    Calls Tryz.prog 168 #[.int .i64 n, .int .i64 (m : Int)] w fun e w' => e = .returned (.bool (tens n m).isSome) ∧ w = w' := by
  have hmp : decide ((0 : Int) < m) = true := decide_eq_true (by omega)
  go_enter Tryz.func168, Tryz.ntmps168
  go_wp2_with fail
  go_loop [0, 5, 6] (fun z i _ => ∃ (j : Nat) (x : Int), j ≤ m ∧ i = .int .i64 j ∧ z = .int .i64 x ∧ inR x ∧ tens n m = tens x (m - j)) (fun _ i _ => m - (intOf i).toNat)
  case atStart => exact ⟨0, n, by omega, rfl, rfl, hn, by simp⟩
  case round =>
    obtain ⟨j, x, hj, rfl, rfl, hx, ht⟩ := hrel
    by_cases hlt : j < m
    · have hw := wrap_ten hx
      have hr := hx
      unfold inR at hr
      obtain ⟨k, hk⟩ : ∃ k, m - j = k + 1 := ⟨m - j - 1, by omega⟩
      rw [hk] at ht
      by_cases h10 : inR (x * 10)
      · have hin := h10
        unfold inR at hin
        obtain ⟨hwz, hdz⟩ := inR_div h10
        have hq : (Int.tdiv (x * 10) 10 == x) = true := by rw [hdz]; simp
        have HT := Lib.hid (ht.trans (tens_step x k h10))
        have H10 := Lib.hid h10
        clear ht hw hx h10
        go_wp2_with fail
        go_round
        case rel => exact ⟨j + 1, x * 10, by omega, by go_num, by go_num, H10.out, by rw [HT.out]; congr 1; omega⟩
        case measure => simp [intOf]; omega
      · have hq : (wrap64 (Int.tdiv (wrap64 (x * 10)) 10) == x) = false := by rw [wrap_tdiv, beq_eq_false_iff_ne]; exact fun e => h10 (hw.1 e)
        have HT := Lib.hid (ht.trans (tens_stop x k h10))
        clear ht hw hx h10
        go_wp2_with fail
        go_ret
        exact ⟨ret_bool (by rw [HT.out]; rfl), rfl⟩
    · obtain rfl : j = m := by omega
      have HT : Hid (tens n j = some x) := Lib.hid (by rw [ht, Nat.sub_self]; rfl)
      clear ht hx
      go_wp2_with fail
      go_ret
      exact ⟨ret_bool (by rw [HT.out]; rfl), rfl⟩
theorem specWhole (n e : Int) (w : World) (hn : inR n) (he : -20 ≤ e ∧ e ≤ 20) :
    Calls Tryz.prog 168 #[.int .i64 n, .int .i64 e] w fun r w' => r = .returned (.bool (decide (0 < e) && (tens n e.toNat).isSome)) ∧ w = w' := by
  by_cases h : 0 < e
  · obtain ⟨m, rfl⟩ := Int.eq_ofNat_of_zero_le (show 0 ≤ e by omega)
    refine (specWhole_pos n m w hn (by omega) (by omega)).mono ?_
    rintro r w' ⟨rfl, rfl⟩
    exact ⟨ret_bool (by rw [decide_eq_true h, Int.toNat_natCast]; rfl), rfl⟩
  · have hd : decide ((0 : Int) < e) = false := decide_eq_false h
    go_enter Tryz.func168, Tryz.ntmps168
    go_wp2_with fail
    go_loop [5] (fun i => i = .int .i64 0) (fun _ => 0)
    case atStart => exact rfl
    case round =>
      obtain rfl := hrel
      go_wp2_with fail
      go_ret
      exact ⟨ret_bool (by first | rfl | (rw [hd]; rfl)), rfl⟩

theorem text_iff (a b : ByteArray) : (a.toList == b.toList) = decide (a = b) := by
  rw [Bool.eq_iff_iff, decide_eq_true_iff, beq_iff_eq, ByteArray.toList_eq, ByteArray.toList_eq]
  constructor
  · intro h
    cases a; cases b
    simp only [ByteArray.mk.injEq]
    exact Array.toList_inj.1 h
  · intro h; rw [h]
theorem keyEq_bools (a b : V) : (((a.k == b.k) = true ∧ (a.n == b.n) = true ∧ (a.s.toList == b.s.toList) = true) ∧ keyEq a b) ∨ (((a.k == b.k) = false ∨ ((a.k == b.k) = true ∧ (a.n == b.n) = false) ∨ ((a.k == b.k) = true ∧ (a.n == b.n) = true ∧ (a.s.toList == b.s.toList) = false)) ∧ ¬ keyEq a b) := by
  unfold keyEq
  rw [text_iff]
  simp only [beq_iff_eq, beq_eq_false_iff_ne, decide_eq_true_iff, decide_eq_false_iff_not]
  by_cases h1 : a.k = b.k <;> by_cases h2 : a.n = b.n <;> by_cases h3 : a.s = b.s <;> simp [h1, h2, h3]
theorem pairsTo_step {R : V → V → Prop} {l : List V} {j : Nat} (hj : j < l.length) (he : j % 2 = 0) (h : pairsTo R l j) (hk : isKeyB l[j] = true) (hn : ∀ k (hk : k < j), k % 2 = 0 → ¬ R (l[k]'(by omega)) l[j]) : pairsTo R l (j + 2) := by
  intro i hi hlt hev
  by_cases e : i = j
  · subst e; exact ⟨hk, hn⟩
  · exact h i hi (by omega) hev
theorem pairsTo_end {R : V → V → Prop} {l : List V} {j : Nat} (hj : l.length ≤ j) (h : pairsTo R l j) : pairsTo R l l.length := fun i hi _ he => h i hi (by omega) he
theorem pairsTo_zero (R : V → V → Prop) (l : List V) : pairsTo R l 0 := fun i _ h => by omega

set_option maxHeartbeats 4000000 in
theorem specPairs (l : List V) (A : Option Addr) (cap : Nat) (w : World) (hl : l.length ≤ 1048576) (hat : Vs.at_ w 0 w.heap.size l A) :
    Calls Tryz.prog 169 #[.slice A l.length cap] w fun e w' => e = .returned (.bool (decide (pairsOk l))) ∧ Below w.heap.size w w' := by
  have HA := Lib.hid hat
  clear hat
  go_enter Tryz.func169, Tryz.ntmps169
  go_wp2_with fail
  go_loopw [3, 4] (fun i k wr => ∃ j : Nat, j ≤ l.length + 1 ∧ j % 2 = 0 ∧ i = .int .i64 j ∧ pairsTo keyEq l j ∧ Below w.heap.size w wr) (fun i _ _ => l.length + 2 - (intOf i).toNat)
  case atStart => exact ⟨0, by omega, rfl, rfl, pairsTo_zero _ _, Below.refl _ _⟩
  case round =>
    obtain ⟨j, hj, he, rfl, hp, hb⟩ := hrel
    have HP := Lib.hid hp
    clear hp
    by_cases hlt : j < l.length
    · obtain ⟨b, off, A', cap', eA, g1, g2, g3, ⟨c0, c1, c2, c3, c4⟩, g5⟩ := Vs.at_get j hlt (Vs.at_below HA.out hb (Nat.le_refl _))
      subst eA
      by_cases hkey : isKeyB l[j] = true
      · have hkk := hkey
        unfold isKeyB at hkk
        rw [decide_eq_true_iff] at hkk
        have HKEY := Lib.hid hkey
        clear hkey
        rcases (show (l[j].k != 5) = false ∨ ((l[j].k != 5) = true ∧ (l[j].k != 3) = false) by
          rcases hkk with h | h
          · left; rw [h]; rfl
          · right; rw [h]; exact ⟨rfl, rfl⟩) with hc | hc
        all_goals
          clear hkk
          go_wp2_with fail
          go_loopw [4] (fun k wq => ∃ m : Nat, m ≤ j + 1 ∧ m % 2 = 0 ∧ k = .int .i64 m ∧ (∀ q (hq : q < j), q < m → q % 2 = 0 → ¬ keyEq (l[q]'(by omega)) l[j]) ∧ Below w.heap.size w wq) (fun k _ => j + 2 - (intOf k).toNat)
          case atStart => exact ⟨0, by omega, rfl, rfl, fun q _ h => by omega, hb⟩
          case round =>
            obtain ⟨m, hm, hme, rfl, hnot, hbq⟩ := hrel
            have HNOT := Lib.hid hnot
            clear hnot
            by_cases hmj : m < j
            · have hmlt : m < l.length := by omega
              obtain ⟨b1, off1, A1, cap1, e1, k1, k2, k3, ⟨d0, d1, d2, d3, d4⟩, k5⟩ := Vs.at_get m hmlt (Vs.at_below HA.out hbq (Nat.le_refl _))
              obtain ⟨b2, off2, A2, cap2, e2, m1, m2, m3, ⟨f0, f1, f2, f3, f4⟩, m5⟩ := Vs.at_get j hlt (Vs.at_below HA.out hbq (Nat.le_refl _))
              injection e1 with e1
              injection e1 with e11 e12
              injection e2 with e2
              injection e2 with e21 e22
              subst e11 e12 e21 e22
              rcases keyEq_bools l[m] l[j] with ⟨⟨t1, t2, t3⟩, hq⟩ | ⟨ht, hq⟩
              · have HN : Hid (decide (pairsOk l) = false) := Lib.hid (decide_eq_false (fun h => (h.1 j hlt hlt he).2 m hmj hme hq))
                clear hq
                go_wp2_with fail
                go_quiet (fail)
                go_wp2_with fail
                go_ret
                exact ⟨ret_bool HN.out.symm, below_drewN hbq _⟩
              · have HQ := Lib.hid hq
                clear hq
                rcases ht with t1 | ⟨t1, t2⟩ | ⟨t1, t2, t3⟩
                all_goals
                  go_wp2_with fail
                  go_quiet (fail)
                  go_wp2_with fail
                  go_roundw
                  case rel => exact ⟨m + 2, by omega, by omega, by go_num, fun q hq1 hq2 hq3 => by
                    by_cases e : q = m
                    · subst e; exact HQ.out
                    · exact HNOT.out q hq1 (by omega) hq3, below_drewN hbq _⟩
                  case measure => simp [intOf]; omega
            · have HST := Lib.hid (pairsTo_step hlt he HP.out HKEY.out (fun k hk hke => HNOT.out k hk (by omega) hke))
              go_wp2_with fail
              go_roundw
              case rel => exact ⟨j + 2, by omega, by omega, by go_num, HST.out, hbq⟩
              case measure => simp [intOf]; omega
      · have hkk : ¬ (l[j].k = 5 ∨ l[j].k = 3) := by unfold isKeyB at hkey; rwa [decide_eq_true_iff] at hkey
        have hc1 : (l[j].k != 5) = true := by simp; omega
        have hc2 : (l[j].k != 3) = true := by simp; omega
        have HN : Hid (decide (pairsOk l) = false) := Lib.hid (decide_eq_false (fun h => hkey (h.1 j hlt hlt he).1))
        clear hkk hkey
        go_wp2_with fail
        go_ret
        exact ⟨ret_bool HN.out.symm, hb⟩
    · have HE : Hid (decide (pairsOk l) = (decide (l.length % 2 = 0) && decide (l.length ≤ 300))) := Lib.hid (by
        unfold pairsOk
        rw [show (pairsTo keyEq l l.length ∧ l.length % 2 = 0 ∧ l.length ≤ 300) = (l.length % 2 = 0 ∧ l.length ≤ 300) from propext ⟨fun h => h.2, fun h => ⟨pairsTo_end (by omega) HP.out, h⟩⟩]
        rw [Bool.decide_and])
      by_cases hev : l.length % 2 = 0
      · have hx : ((l.length : Int) % 2 == 0) = true := by rw [beq_iff_eq]; omega
        go_wp2_with fail
        go_ret
        exact ⟨ret_bool (by rw [HE.out, decide_eq_true hev, Bool.true_and]; exact decide_eq_decide.2 (by omega)), hb⟩
      · have hx : ((l.length : Int) % 2 == 0) = false := by rw [beq_eq_false_iff_ne]; omega
        go_wp2_with fail
        go_ret
        exact ⟨ret_bool (by rw [HE.out, decide_eq_false hev]; rfl), hb⟩
end Go.Proofs.YtbfddabljkoapaaGreatDoor

/-
  PutSign: the bytes of a code point.
-/
namespace Go.Proofs.YtbfddabljkoapaaGreatDoor
open Go.RowKit
set_option linter.unusedVariables false

set_option maxHeartbeats 1000000 in
set_option maxRecDepth 100000 in
theorem specPutSign_1 (n : Nat) (w : World) (h : n < 128) :
    Calls Tryz.prog 60 #[.int .i64 n] w fun e w' => e = .returned (.string (Utf8.encode n)) ∧ Below w.heap.size w w' := by
  have hd0 : decide ((n : Int) ≤ 1114111) = true := by simp; omega
  have hd1 : decide (55296 ≤ (n : Int)) = false := by simp; omega
  have hd2 : decide ((n : Int) < 128) = true := by simp; omega
  have hl := lit1 (P := Tryz.prog) 22 9 5 Tryz.underlying22 Tryz.underlying5 Tryz.underlying9
  go_enter Tryz.func60, Tryz.ntmps60
  go_wp2_with go_in
  go_ret
  exact ⟨ret_eq (congrArg Value.string (enc1 n (by omega))), (Below.refl _ _).alloc (Nat.le_refl _) _⟩

set_option maxHeartbeats 1000000 in
set_option maxRecDepth 100000 in
theorem specPutSign_2 (n : Nat) (w : World) (h : 128 ≤ n ∧ n < 2048) :
    Calls Tryz.prog 60 #[.int .i64 n] w fun e w' => e = .returned (.string (Utf8.encode n)) ∧ Below w.heap.size w w' := by
  have hd0 : decide ((n : Int) ≤ 1114111) = true := by simp; omega
  have hd1 : decide (55296 ≤ (n : Int)) = false := by simp; omega
  have hd2 : decide ((n : Int) < 128) = false := by simp; omega
  have hd3 : decide ((n : Int) < 2048) = true := by simp; omega
  have hd4 : bits .and .i64 (n : Int) 63 = ((n % 64 : Nat) : Int) := and63 n (by omega)
  have hl := lit2 (P := Tryz.prog) 22 9 5 Tryz.underlying22 Tryz.underlying5 Tryz.underlying9
  go_enter Tryz.func60, Tryz.ntmps60
  go_wp2_with go_in
  go_ret
  exact ⟨ret_eq (congrArg Value.string (enc2 n (by omega))), (Below.refl _ _).alloc (Nat.le_refl _) _⟩

set_option maxHeartbeats 1000000 in
set_option maxRecDepth 100000 in
theorem specPutSign_3 (n : Nat) (w : World) (h : 2048 ≤ n ∧ n < 55296) :
    Calls Tryz.prog 60 #[.int .i64 n] w fun e w' => e = .returned (.string (Utf8.encode n)) ∧ Below w.heap.size w w' := by
  have hd0 : decide ((n : Int) ≤ 1114111) = true := by simp; omega
  have hd1 : decide (55296 ≤ (n : Int)) = false := by simp; omega
  have hd2 : decide ((n : Int) < 128) = false := by simp; omega
  have hd3 : decide ((n : Int) < 2048) = false := by simp; omega
  have hd4 : decide ((n : Int) < 65536) = true := by simp; omega
  have hd5 : bits .and .i64 (n : Int) 63 = ((n % 64 : Nat) : Int) := and63 n (by omega)
  have hd6 : bits .and .i64 ((n : Int) / 64) 63 = ((n / 64 % 64 : Nat) : Int) := and63d n 64 (by omega)
  have hl := lit3 (P := Tryz.prog) 22 9 5 Tryz.underlying22 Tryz.underlying5 Tryz.underlying9
  go_enter Tryz.func60, Tryz.ntmps60
  go_wp2_with go_in
  go_ret
  exact ⟨ret_eq (congrArg Value.string (enc3 n (by omega))), (Below.refl _ _).alloc (Nat.le_refl _) _⟩

set_option maxHeartbeats 1000000 in
set_option maxRecDepth 100000 in
theorem specPutSign_4 (n : Nat) (w : World) (h : 57343 < n ∧ n < 65536) :
    Calls Tryz.prog 60 #[.int .i64 n] w fun e w' => e = .returned (.string (Utf8.encode n)) ∧ Below w.heap.size w w' := by
  have hd0 : decide ((n : Int) ≤ 1114111) = true := by simp; omega
  have hd1 : decide (55296 ≤ (n : Int)) = true := by simp; omega
  have hd2 : decide ((n : Int) ≤ 57343) = false := by simp; omega
  have hd3 : decide ((n : Int) < 128) = false := by simp; omega
  have hd4 : decide ((n : Int) < 2048) = false := by simp; omega
  have hd5 : decide ((n : Int) < 65536) = true := by simp; omega
  have hd6 : bits .and .i64 (n : Int) 63 = ((n % 64 : Nat) : Int) := and63 n (by omega)
  have hd7 : bits .and .i64 ((n : Int) / 64) 63 = ((n / 64 % 64 : Nat) : Int) := and63d n 64 (by omega)
  have hl := lit3 (P := Tryz.prog) 22 9 5 Tryz.underlying22 Tryz.underlying5 Tryz.underlying9
  go_enter Tryz.func60, Tryz.ntmps60
  go_wp2_with go_in
  go_ret
  exact ⟨ret_eq (congrArg Value.string (enc3 n (by omega))), (Below.refl _ _).alloc (Nat.le_refl _) _⟩

set_option maxHeartbeats 1000000 in
set_option maxRecDepth 100000 in
theorem specPutSign_5 (n : Nat) (w : World) (h : 65536 ≤ n ∧ n < 1114112) :
    Calls Tryz.prog 60 #[.int .i64 n] w fun e w' => e = .returned (.string (Utf8.encode n)) ∧ Below w.heap.size w w' := by
  have hd0 : decide ((n : Int) ≤ 1114111) = true := by simp; omega
  have hd1 : decide (55296 ≤ (n : Int)) = true := by simp; omega
  have hd2 : decide ((n : Int) ≤ 57343) = false := by simp; omega
  have hd3 : decide ((n : Int) < 128) = false := by simp; omega
  have hd4 : decide ((n : Int) < 2048) = false := by simp; omega
  have hd5 : decide ((n : Int) < 65536) = false := by simp; omega
  have hd6 : bits .and .i64 (n : Int) 63 = ((n % 64 : Nat) : Int) := and63 n (by omega)
  have hd7 : bits .and .i64 ((n : Int) / 64) 63 = ((n / 64 % 64 : Nat) : Int) := and63d n 64 (by omega)
  have hd8 : bits .and .i64 ((n : Int) / 4096) 63 = ((n / 4096 % 64 : Nat) : Int) := and63d n 4096 (by omega)
  have hl := lit4 (P := Tryz.prog) 22 9 5 Tryz.underlying22 Tryz.underlying5 Tryz.underlying9
  go_enter Tryz.func60, Tryz.ntmps60
  go_wp2_with go_in
  go_ret
  exact ⟨ret_eq (congrArg Value.string (enc4 n (by omega))), (Below.refl _ _).alloc (Nat.le_refl _) _⟩

theorem specPutSign (n : Int) (w : World) (h0 : -9223372036854775808 ≤ n ∧ n ≤ 9223372036854775807) :
    Calls Tryz.prog 60 #[.int .i64 n] w fun e w' => e = .returned (.string (signB n)) ∧ Below w.heap.size w w' := by
  by_cases h : (0 ≤ n ∧ n < 55296) ∨ (57343 < n ∧ n ≤ 1114111)
  · have hs : signB n = Utf8.encode n := by unfold signB isSg; rw [if_pos (by simp; omega)]
    rw [hs]
    obtain ⟨n, rfl⟩ := Int.eq_ofNat_of_zero_le (show 0 ≤ n by omega)
    rcases (show n < 128 ∨ (128 ≤ n ∧ n < 2048) ∨ (2048 ≤ n ∧ n < 55296) ∨ (57343 < n ∧ n < 65536) ∨ (65536 ≤ n ∧ n < 1114112) by omega) with hc | hc | hc | hc | hc
    · exact specPutSign_1 n w hc
    · exact specPutSign_2 n w hc
    · exact specPutSign_3 n w hc
    · exact specPutSign_4 n w hc
    · exact specPutSign_5 n w hc
  · have hs : signB n = ⟨#[]⟩ := by unfold signB isSg; rw [if_neg (by simp; omega)]
    rw [hs]
    clear hs
    rcases (show n < 0 ∨ 1114111 < n ∨ (55296 ≤ n ∧ n ≤ 57343) by omega) with hc | hc | hc
    · clear h
      go_enter Tryz.func60, Tryz.ntmps60
      go_wp2_with go_in
      go_ret
      exact ⟨rfl, Below.refl _ _⟩
    · clear h
      have hd : decide (n ≤ 1114111) = false := by simp; omega
      go_enter Tryz.func60, Tryz.ntmps60
      go_wp2_with go_in
      go_ret
      exact ⟨rfl, Below.refl _ _⟩
    · clear h
      have hd : decide (n ≤ 1114111) = true := by simp; omega
      have hd2 : decide (n ≤ 57343) = true := by simp; omega
      go_enter Tryz.func60, Tryz.ntmps60
      go_wp2_with go_in
      go_ret
      exact ⟨rfl, Below.refl _ _⟩
end Go.Proofs.YtbfddabljkoapaaGreatDoor

/-
  GetSign of the reference: the sign at a place, as the model's own decoder reads it.
-/
namespace Go.Proofs.YtbfddabljkoapaaGreatDoor
open Go.RowKit
set_option linter.unusedVariables false

theorem and31 (n : Nat) (h : n < 9223372036854775808) : bits .and .i64 (n : Int) 31 = ((n % 32 : Nat) : Int) := by
  have h1 := ofInt_i64 n h
  have h2 := ofInt_i64 31 (by omega)
  show IntKind.i64.wrap ((BitVec.ofInt 64 (n : Int) &&& BitVec.ofInt 64 ((31 : Nat) : Int)).toNat : Int) = _
  rw [BitVec.toNat_and, h1, h2, Nat.and_two_pow_sub_one_eq_mod n 5, IntKind.wrap_i64]
  omega
theorem and15i (n : Nat) (h : n < 9223372036854775808) : bits .and .i64 (n : Int) 15 = ((n % 16 : Nat) : Int) := by
  have h1 := ofInt_i64 n h
  have h2 := ofInt_i64 15 (by omega)
  show IntKind.i64.wrap ((BitVec.ofInt 64 (n : Int) &&& BitVec.ofInt 64 ((15 : Nat) : Int)).toNat : Int) = _
  rw [BitVec.toNat_and, h1, h2, Nat.and_two_pow_sub_one_eq_mod n 4, IntKind.wrap_i64]
  omega
theorem and7i (n : Nat) (h : n < 9223372036854775808) : bits .and .i64 (n : Int) 7 = ((n % 8 : Nat) : Int) := by
  have h1 := ofInt_i64 n h
  have h2 := ofInt_i64 7 (by omega)
  show IntKind.i64.wrap ((BitVec.ofInt 64 (n : Int) &&& BitVec.ofInt 64 ((7 : Nat) : Int)).toNat : Int) = _
  rw [BitVec.toNat_and, h1, h2, Nat.and_two_pow_sub_one_eq_mod n 3, IntKind.wrap_i64]
  omega

set_option maxRecDepth 100000 in
theorem specMany (b : Nat) (hb : b < 256) (w : World) :
    Calls Tryz.prog 105 #[.int .i64 b] w fun e w' => e = .returned (.tuple #[.int .i64 (manyN b), .int .i64 (headN b)]) ∧ w = w' := by
  have e1 := and31 b (by omega)
  have e2 := and15i b (by omega)
  have e3 := and7i b (by omega)
  rcases (show b < 128 ∨ (128 ≤ b ∧ b < 192) ∨ (192 ≤ b ∧ b ≤ 223) ∨ (224 ≤ b ∧ b ≤ 239) ∨ (240 ≤ b ∧ b ≤ 247) ∨ (248 ≤ b) by omega) with h | h | h | h | h | h
  · have hm : manyN b = 1 ∧ headN b = b := by unfold manyN headN; rw [if_pos h, if_pos h]; exact ⟨rfl, rfl⟩
    rw [hm.1, hm.2]
    clear hm
    go_enter Tryz.func105, Tryz.ntmps105
    go_wp2_with go_in
    go_ret2
    exact ⟨rfl, rfl⟩
  · have hm : manyN b = 0 ∧ headN b = 0 := by
      unfold manyN headN
      rw [if_neg (by omega), if_neg (by omega), if_neg (by omega), if_neg (by omega), if_neg (by omega), if_neg (by omega), if_neg (by omega), if_neg (by omega)]; exact ⟨rfl, rfl⟩
    rw [hm.1, hm.2]
    clear hm
    go_enter Tryz.func105, Tryz.ntmps105
    go_wp2_with go_in
    go_ret2
    exact ⟨rfl, rfl⟩
  · have hm : manyN b = 2 ∧ headN b = b % 32 := by
      unfold manyN headN
      rw [if_neg (by omega), if_pos h, if_neg (by omega), if_pos h]; exact ⟨rfl, rfl⟩
    rw [hm.1, hm.2]
    clear hm
    go_enter Tryz.func105, Tryz.ntmps105
    go_wp2_with go_in
    go_ret2
    exact ⟨rfl, rfl⟩
  · have hm : manyN b = 3 ∧ headN b = b % 16 := by
      unfold manyN headN
      rw [if_neg (by omega), if_neg (by omega), if_pos h, if_neg (by omega), if_neg (by omega), if_pos h]; exact ⟨rfl, rfl⟩
    rw [hm.1, hm.2]
    clear hm
    go_enter Tryz.func105, Tryz.ntmps105
    go_wp2_with go_in
    go_ret2
    exact ⟨rfl, rfl⟩
  · have hm : manyN b = 4 ∧ headN b = b % 8 := by
      unfold manyN headN
      rw [if_neg (by omega), if_neg (by omega), if_neg (by omega), if_pos h, if_neg (by omega), if_neg (by omega), if_neg (by omega), if_pos h]; exact ⟨rfl, rfl⟩
    rw [hm.1, hm.2]
    clear hm
    go_enter Tryz.func105, Tryz.ntmps105
    go_wp2_with go_in
    go_ret2
    exact ⟨rfl, rfl⟩
  · have hm : manyN b = 0 ∧ headN b = 0 := by
      unfold manyN headN
      rw [if_neg (by omega), if_neg (by omega), if_neg (by omega), if_neg (by omega), if_neg (by omega), if_neg (by omega), if_neg (by omega), if_neg (by omega)]; exact ⟨rfl, rfl⟩
    rw [hm.1, hm.2]
    clear hm
    go_enter Tryz.func105, Tryz.ntmps105
    go_wp2_with go_in
    go_ret2
    exact ⟨rfl, rfl⟩

theorem gs_no {s : ByteArray} {i : Int} (h : ¬ gsOk s i) : gsN s i = -1 ∧ gsE s i = -1 := by
  unfold gsN gsE; rw [if_neg h, if_neg h]; exact ⟨rfl, rfl⟩
theorem gs_yes {s : ByteArray} {i : Int} (h : gsOk s i) : gsN s i = (Utf8.decode s i.toNat).1 ∧ gsE s i = i + (Utf8.decode s i.toNat).2 := by
  unfold gsN gsE; rw [if_pos h, if_pos h]; exact ⟨rfl, rfl⟩
theorem gs_yes' {s : ByteArray} {i : Nat} (h : gsOk s (i : Int)) : gsN s i = (Utf8.decode s i).1 ∧ gsE s i = (i : Int) + (Utf8.decode s i).2 := by
  have := gs_yes h
  rwa [Int.toNat_natCast] at this
theorem dec_w (s : ByteArray) (i : Nat) : (Utf8.decode s i).1 < 4294967296 ∧ 1 ≤ (Utf8.decode s i).2 ∧ (Utf8.decode s i).2 ≤ 4 := by
  rw [Lib.decode_at]
  have h0 := (s.get! i).toNat_lt
  have h1 := (s.get! (i + 1)).toNat_lt
  have h2 := (s.get! (i + 2)).toNat_lt
  have h3 := (s.get! (i + 3)).toNat_lt
  unfold Lib.decodeN
  repeat' split
  all_goals simp
  all_goals omega
theorem accN_step (s : ByteArray) (i k : Nat) (h : 1 ≤ k) (hk : i + k < s.size) : accN s i (k + 1 - 1) = accN s i (k - 1) * 64 + s[i + k].toNat % 64 := by
  obtain ⟨k, rfl⟩ : ∃ j, k = j + 1 := ⟨k - 1, by omega⟩
  rw [get_get! _ _ (by omega)]
  rfl
theorem tup2 {a a' b b' : Int} (h1 : a = a') (h2 : b = b') : Ending.returned (.tuple #[.int .i64 a, .int .i64 b]) = Ending.returned (.tuple #[.int .i64 a', .int .i64 b']) := by rw [h1, h2]

theorem sl2 (s : ByteArray) (i j : Nat) (h : i + j ≤ s.size) (hs : s.size ≤ 1048576) : (0 : Int) ≤ i ∧ (i : Int) ≤ (i : Int) + j ∧ (i : Int) + j ≤ s.size ∧ IntKind.i64.wrap ((i : Int) + j) = (i : Int) + j ∧ (0 : Int) ≤ (i : Int) + j ∧ ((i : Int) + j).toNat = i + j := by
  refine ⟨by omega, by omega, by omega, ?_, by omega, by omega⟩
  rw [IntKind.wrap_i64]; omega

set_option maxHeartbeats 1000000 in
theorem specGetSign (s : ByteArray) (i : Int) (w : World) (hs : s.size ≤ 1048576) (hi : -9223372036854775808 ≤ i ∧ i ≤ 9223372036854775807) :
    Calls Tryz.prog 59 #[.string s, .int .i64 i] w fun e w' => e = .returned (.tuple #[.int .i64 (gsN s i), .int .i64 (gsE s i)]) ∧ Below w.heap.size w w' := by
  by_cases hin : 0 ≤ i ∧ i < s.size
  · obtain ⟨h0, h1⟩ := hin
    obtain ⟨i, rfl⟩ := Int.eq_ofNat_of_zero_le h0
    have hlt : i < s.size := by omega
    have hu : s[i].toNat < 256 := UInt8.toNat_lt _
    have HG := Lib.hid (get_get! s i hlt)
    by_cases hno : manyN s[i].toNat = 0 ∨ s.size < i + manyN s[i].toNat
    · have HN := Lib.hid (gs_no (sgn_none s i (by rw [← HG.out]; exact hno)))
      rcases hno with hm | hm
      · have HM := Lib.hid hm
        clear hm
        go_enter Tryz.func59, Tryz.ntmps59
        go_wp2_with fail
        refine (specMany _ hu w).mono ?_
        rintro e w' ⟨rfl, rfl⟩
        rw [HM.out]
        go_wp2_with fail
        go_ret2
        exact ⟨tup2 HN.out.1.symm HN.out.2.symm, Below.refl _ _⟩
      · have hml := manyN_le s[i].toNat
        by_cases hm0 : manyN s[i].toNat = 0
        · have HM := Lib.hid hm0
          clear hm hm0
          go_enter Tryz.func59, Tryz.ntmps59
          go_wp2_with fail
          refine (specMany _ hu w).mono ?_
          rintro e w' ⟨rfl, rfl⟩
          rw [HM.out]
          go_wp2_with fail
          go_ret2
          exact ⟨tup2 HN.out.1.symm HN.out.2.symm, Below.refl _ _⟩
        · go_enter Tryz.func59, Tryz.ntmps59
          go_wp2_with fail
          refine (specMany _ hu w).mono ?_
          rintro e w' ⟨rfl, rfl⟩
          go_wp2_with fail
          all_goals go_ret2
          all_goals exact ⟨tup2 HN.out.1.symm HN.out.2.symm, Below.refl _ _⟩
    · obtain ⟨hm0, hmle⟩ : manyN s[i].toNat ≠ 0 ∧ i + manyN s[i].toNat ≤ s.size := by omega
      have hml := manyN_le s[i].toNat
      have HS := Lib.hid (sgn_some s i (manyN s[i].toNat) (by rw [HG.out]) (by omega) hmle)
      have HH := Lib.hid (show headN s[i].toNat = accN s i (1 - 1) by rw [HG.out]; rfl)
      clear hno
      go_enter Tryz.func59, Tryz.ntmps59
      go_wp2_with fail
      refine (specMany _ hu w).mono ?_
      rintro e w' ⟨rfl, rfl⟩
      rw [HH.out]
      generalize manyN s[i].toNat = m at *
      have hmz : ((m : Int) == 0) = false := by simp; omega
      have hm1 : 1 ≤ m := by omega
      clear hm0
      go_wp2_with fail
      go_loop [7, 8] (fun n k => ∃ j : Nat, 1 ≤ j ∧ j ≤ m ∧ k = .int .i64 j ∧ n = .int .i64 (accN s i (j - 1))) (fun _ k => m - (intOf k).toNat)
      case atStart => exact ⟨1, by omega, by omega, rfl, rfl⟩
      case round =>
        obtain ⟨j, hj1, hj, rfl, rfl⟩ := hrel
        have ha := accN_lt s i (j - 1) (by omega)
        by_cases hlt2 : j < m
        · have HST := Lib.hid (accN_step s i j hj1 (by omega))
          have hu2 : s[i + j].toNat < 256 := UInt8.toNat_lt _
          have hx := and63 s[i + j].toNat (by omega)
          generalize accN s i (j - 1) = a at *
          go_wp2_with fail
          go_round
          case rel => exact ⟨j + 1, by omega, by omega, by go_num, by rw [HST.out]; go_num⟩
          case measure => simp [intOf]; omega
        · obtain rfl : j = m := by omega
          have hcmp := sg_cmp s i j (accN s i (j - 1)) hmle
          have HC := Lib.hid hcmp
          clear hcmp
          generalize accN s i (j - 1) = a at *
          have HK : Hid (((signB (a : Int)).toList == (s.extract i (i + j)).toList) = decide (gsOk s (i : Int))) := by
            rw [Bool.eq_iff_iff, decide_eq_true_iff, HS.out.1, ← HC.out, beq_iff_eq, ByteArray.toList_eq, ByteArray.toList_eq]
            exact ⟨fun h => ba_ext h, fun h => by rw [h]⟩
          go_wp2_with fail
          obtain ⟨q1, q2, q3, q4, q5, q6⟩ := sl2 s i j hmle hs
          go_region_held3 (fun _ => True) (exact trivial) (first | (go_at_call 60; refine (specPutSign _ _ ⟨by omega, by omega⟩).mono ?_; rintro e w2 ⟨rfl, hb2⟩))
          by_cases hok : gsOk s (i : Int)
          · have ht : ((signB (a : Int)).toList == (s.extract i (i + j)).toList) = true := by rw [HK.out]; exact decide_eq_true hok
            have HY := Lib.hid (gs_yes hok)
            have HD := Lib.hid (HS.out.2 hok)
            clear q1 q2 q3 q4 q5 q6
            go_wp2_with fail
            all_goals go_ret2
            all_goals first
              | (have hx : (!(signB (a : Int)).toList == (s.extract i (i + j)).toList) = true := by assumption
                 rw [ht] at hx; cases hx)
              | exact ⟨tup2 (by rw [HY.out.1, Int.toNat_natCast, HD.out]) (by rw [HY.out.2, Int.toNat_natCast, HD.out]), (Below.refl _ _).drew.trans hb2⟩
          · have ht : ((signB (a : Int)).toList == (s.extract i (i + j)).toList) = false := by rw [HK.out]; exact decide_eq_false hok
            have HN := Lib.hid (gs_no hok)
            clear q1 q2 q3 q4 q5 q6
            go_wp2_with fail
            all_goals go_ret2
            all_goals first
              | (have hx : (!(signB (a : Int)).toList == (s.extract i (i + j)).toList) = false := by assumption
                 rw [ht] at hx; cases hx)
              | exact ⟨tup2 HN.out.1.symm HN.out.2.symm, (Below.refl _ _).drew.trans hb2⟩
  · have HN := Lib.hid (gs_no (s := s) (i := i) (fun h => hin ⟨h.1, h.2.1⟩))
    go_enter Tryz.func59, Tryz.ntmps59
    by_cases h0 : i < 0
    · clear hin
      go_wp2_with fail
      go_ret2
      exact ⟨tup2 HN.out.1.symm HN.out.2.symm, Below.refl _ _⟩
    · have h1 : (s.size : Int) ≤ i := by omega
      clear hin
      go_wp2_with fail
      go_ret2
      exact ⟨tup2 HN.out.1.symm HN.out.2.symm, Below.refl _ _⟩
end Go.Proofs.YtbfddabljkoapaaGreatDoor

/-
  Signs and TextOk of the reference.
-/
namespace Go.Proofs.YtbfddabljkoapaaGreatDoor
open Go.RowKit
set_option linter.unusedVariables false

/-- A number as a value. -/
def iv (n : Nat) : Value := .int .i64 (n : Int)
theorem one_iv (n : Int) : ∀ u ∈ #[Value.int .i64 n].toList, u.oneCell' = true := by
  intro u hu; simp at hu; subst hu; rfl
theorem infoI : (Tryz.prog.info? 3).map (fun i => (i.zero, i.size, i.bytes)) = some (some (.int .i64 0), 1, 8) := by kernel_rfl
/-- What holds in the loop. -/
def SgRel (s : ByteArray) (w : World) (o i : Value) (wr : World) : Prop :=
  ∃ (j : Nat) (pre : List Nat), ReadTo s j pre ∧ i = .int .i64 j ∧ wr.ownsRow w.heap.size 3 1 o pre.length (pre.map iv) ∧ Below w.heap.size w wr

theorem sg_next {s : ByteArray} {w w' : World} {j : Nat} {pre : List Nat} {v : Value} (h : ReadTo s j pre) (hj : j < s.size) (hok : gsOk s (j : Int)) {a b : Int} (ha : a = (Utf8.decode s j).1) (hb : b = (j : Int) + (Utf8.decode s j).2)
    (hown : w'.ownsRow w.heap.size 3 1 v (pre.length + 1) (pre.map iv ++ [.int .i64 a])) (hbl : Below w.heap.size w w') : SgRel s w v (.int .i64 b) w' := by
  subst ha hb
  exact ⟨_, _, readTo_next h hj hok, by simp, by simpa [iv] using hown, hbl⟩

set_option maxHeartbeats 1000000 in
theorem specSigns (s : ByteArray) (w : World) (hs : s.size ≤ 1048576) :
    Calls Tryz.prog 71 #[.string s] w fun e w' => ∃ o, e = .returned o ∧ w'.ownsRow w.heap.size 3 1 o (signsL s).length ((signsL s).map iv) ∧ Below w.heap.size w w' := by
  go_enter Tryz.func71, Tryz.ntmps71
  go_wp2_with fail
  go_loopw [3, 4] (fun o i wr => SgRel s w o i wr) (fun _ i _ => s.size - (intOf i).toNat)
  case atStart => exact ⟨0, [], readTo_zero s, rfl, own_empty w _ _, (Below.refl _ _).alloc (Nat.le_refl _) _⟩
  case round =>
    obtain ⟨j, pre, hr, rfl, hown, hb⟩ := hrel
    have hle := hr.1
    have hpl := hr.2.1
    have HR := Lib.hid hr
    clear hr
    by_cases hlt : j < s.size
    · by_cases hok : gsOk s (j : Int)
      · have HY := Lib.hid (gs_yes' hok)
        have hp := dec_w s j
        go_wp2_with fail
        refine (specGetSign s j _ hs ⟨by omega, by omega⟩).mono ?_
        rintro e w1 ⟨rfl, hb1⟩
        have hown1 := own_below hown hb1
        have hbw := hb.trans (hb1.mono hb.size)
        have hg : gsE s (j : Int) = (j : Int) + (Utf8.decode s j).2 := HY.out.2
        have hpos : decide (gsE s (j : Int) < 0) = false := by rw [hg]; simp; omega
        have hpos2 : ¬ gsE s (j : Int) < 0 := by omega
        have HG := Lib.hid hg
        clear hg hown hb hb1
        go_wp2_with (at_builtin; refine wpList_app rfl (.tmp 21) (.tmp 23) 65 rfl w.heap.size 3 Tryz.underlying65 infoI rfl (by decide) (W := w) rfl (hown1.alloc _) (hbw.alloc hbw.size _) (Nat.le_trans hbw.size (by simp)) _ 1 1 _ rfl rfl (cells_new _ _ _) (one_iv _) (by unfold maxLen; omega) (by omega) ?_; intro v' w' hown' hb' hB')
        go_roundw
        case rel => exact sg_next HR.out hlt hok HY.out.1 HG.out hown' hb'
        case measure => have := HG.out; simp [intOf]; omega
      · have HN := Lib.hid (gs_no hok)
        have HE := Lib.hid (readTo_bad HR.out hlt hok)
        go_wp2_with fail
        refine (specGetSign s j _ hs ⟨by omega, by omega⟩).mono ?_
        rintro e w1 ⟨rfl, hb1⟩
        have hbw := hb.trans (hb1.mono hb.size)
        rw [HN.out.1, HN.out.2]
        go_wp2_with fail
        go_ret
        refine ⟨_, rfl, ?_, hbw.alloc hbw.size _⟩
        rw [HE.out.1]
        exact own_empty' _ _ hbw.size
    · have HE := Lib.hid (readTo_end HR.out hlt)
      go_wp2_with fail
      go_ret
      refine ⟨_, rfl, ?_, hb⟩
      rw [HE.out.1]
      exact hown

set_option maxHeartbeats 1000000 in
theorem specTextOk (s : ByteArray) (w : World) (hs : s.size ≤ 1048576) :
    Calls Tryz.prog 30 #[.string s] w fun e w' => e = .returned (.bool (textOk s)) ∧ Below w.heap.size w w' := by
  have HT := Lib.hid (textOk_signs s)
  by_cases h0 : s.size = 0
  · obtain rfl : s = ⟨#[]⟩ := by
      cases s with
      | mk d => cases d with
        | mk l => cases l with
          | nil => rfl
          | cons a l => simp [ByteArray.size] at h0
    go_enter Tryz.func30, Tryz.ntmps30
    go_wp2_with fail
    go_ret
    exact ⟨ret_eq (congrArg Value.bool (by rw [HT.out]; rfl)), Below.refl _ _⟩
  · have hne : s.toList.isEmpty = false := by
      rw [ByteArray.toList_eq]
      cases s with
      | mk d => cases d with
        | mk l => cases l with
          | nil => exact absurd rfl h0
          | cons a l => rfl
    have hz := signsL_len s
    have HE := Lib.hid (show textOk s = decide (0 < (signsL s).length) by rw [HT.out]; simp [h0])
    go_enter Tryz.func30, Tryz.ntmps30
    go_wp2_with fail
    refine (specSigns s w hs).mono ?_
    rintro e w1 ⟨o, rfl, hown, hb1⟩
    obtain ⟨A, c, rfl⟩ := own_slice hown
    clear hown
    go_wp2_with fail
    go_ret
    exact ⟨ret_eq (congrArg Value.bool (by rw [HE.out])), hb1⟩

end Go.Proofs.YtbfddabljkoapaaGreatDoor
