/-
  The texts on which the last one leans, part 6: SortS, RightJ, PutSignS, GetSign, SignsS, Tabs, Signs, RightN, RightN4, RightK, RightP.
-/
import Derived.Test.YtcjamnfboifjeaaDoorPLSortede
import Derived.Deep.RegionHeld3
import Derived.BigQuiet
import Derived.Deep.QuietTactic
import Derived.Shelf.Unicode.DecodeSlow
import Derived.Test.YtcjamnfboifjeaaDoorShelfV
import Derived.RegionTactic
import Derived.BigRegion
import Derived.ChangeAlike
import Derived.StillTailTactics
/-
  The reference's l02Sort.
-/
namespace Go.Proofs.YtcjamnfboifjeaaDoor
open Go.RowKit
set_option linter.unusedVariables false
set_option linter.unusedSimpArgs false
set_option maxRecDepth 100000

section
variable {P : Program} {ops : Array Oper} {o : Oper} {a : Act} {w : World} {K : Act → World → Prop} {Q : Exit → Act → World → Prop}
/-- An append as one step of a region that draws its order: which block may have changed, and where the row lies. -/
theorem step_app2 {E : Prop} (hgd : o.guard = none) (s x : Operand) (t : TypeId) (ho : o.op = .call { callee := .builtin .append, args := #[s, x], argTypes := #[t, t] })
    (base : Nat) (e : TypeId) {z : Value} {size bytes : Nat} (ht : P.underlying t = some (.slice e)) (hinfo : (P.info? e).map (fun i => (i.zero, i.size, i.bytes)) = some (some z, size, bytes)) (hzs : z.cells.size = size) (hsz : 0 < size)
    {v : Value} {n : Nat} {xs : List Value} (hs : a.eval s = v) (hown : w.ownsRow base e size v n xs) (hB : base ≤ w.heap.size)
    (ad : Addr) (m c : Nat) (news : List Value) (hx : a.eval x = .slice (some ad) m c) (hl : news.length = m * size) (hnews : ∀ j u, news[j]? = some u → w.cell? (ad.add j) = some u) (h1 : ∀ u ∈ news, u.oneCell' = true)
    (h63 : n + m ≤ maxLen) (hbytes : (n + m) * bytes ≤ 140737488355328)
    (h : ∀ v' w', w'.ownsRow base e size v' (n + m) (xs ++ news) → w.grownBy w' v.ownBlock → K (a.put o.dst v') w') :
    if Region.wanted o (yielded ops a.tmps) = true then Oper.wp P o a w K Q else E := by
  rw [if_pos (by simp [Region.wanted, hgd])]
  obtain ⟨i, hi, hz, hsize, hby⟩ := info_parts hinfo
  obtain ⟨v', w', hrun, h2, h3, h4, h5⟩ := run_append_own_at (P := P) w base t o.type e i z size bytes ht hi hz hsize hby hzs hsz v n xs hown ad m c news hl hnews h1 h63 hbytes hB
  unfold Oper.wp execOp
  simp only [ho, resolve, invoke, builtin, Sem.run_bind, Sem.run_pure, Result.andThen_ok, List.map_toArray, List.map_cons, List.map_nil, hs, hx, hrun]
  exact h v' w' h2 h3
end
def SrtSaidS (v : V) : Prop := ∀ (A : Option Addr) (cap : Nat) (w : World), v.nodes ≤ 1048577 → V.fitM v → Vs.at_ w 0 w.heap.size v.kids A →
    Calls Tryd.prog 46 #[v.agg A cap] w (Copied v.srt w)
/-- What the first loop has laid. -/
def SsRel (v : V) (A : Option Addr) (cap : Nat) (w : World) (o i : Value) (wr : World) : Prop :=
  ∃ (j : Nat) (es : List Ent) (G : List Nat), i = .int .i64 (j : Int) ∧ j ≤ v.kids.length ∧ Hid (es.map (·.1) = (v.kids.take j).map V.srt) ∧ Hid (RowOf wr (w.heap.size + 2) o es G) ∧ Hid (Blk wr w.heap.size 28 #[.int .i64 v.k, .int .i64 v.n, .int .i64 v.e, .string v.s, .slice A v.kids.length cap]) ∧ Hid (Blk wr (w.heap.size + 1) 28 #[.int .i64 0, .int .i64 0, .int .i64 0, .string ⟨#[]⟩, .slice none 0 0]) ∧ Hid (Below w.heap.size w wr) ∧ Hid (w.heap.size + 2 ≤ wr.heap.size)
theorem SsRel.next {v : V} {A : Option Addr} {cap : Nat} {w wr w1 w2 w' : World} {j : Nat} {es : List Ent} {G F : List Nat} {o v' : Value} {A2 : Option Addr} {c : Nat} (hj : j < v.kids.length) (he : es.map (·.1) = (v.kids.take j).map V.srt) (hr : RowOf wr (w.heap.size + 2) o es G)
    (hB0 : Blk wr w.heap.size 28 #[.int .i64 v.k, .int .i64 v.n, .int .i64 v.e, .string v.s, .slice A v.kids.length cap]) (hB1 : Blk wr (w.heap.size + 1) 28 #[.int .i64 0, .int .i64 0, .int .i64 0, .string ⟨#[]⟩, .slice none 0 0]) (hW : Below w.heap.size w wr) (hS : w.heap.size + 2 ≤ wr.heap.size) (hc : (v.kids[j]).srt.kids.length ≤ c) (hl : Vs.lies w1 (v.kids[j]).srt.kids A2 F) (hnd : F.Nodup) (hF : ∀ x ∈ F, wr.heap.size ≤ x)
    (hb1 : Below wr.heap.size wr w1) (h2 : Below w1.heap.size w1 w2) (hown' : w'.ownsRow (w.heap.size + 2) 28 5 v' (es.length + 1) (flat es ++ Ent.cells ((v.kids[j]).srt, A2, c))) (hg : w2.grownBy w' o.ownBlock) (hv : v'.ownBlock = o.ownBlock ∨ v'.ownBlock = some w2.heap.size) :
    SsRel v A cap w v' (.int .i64 ((j : Int) + 1)) w' := by
  have hr1 := hr.below (Nat.le_refl _) hb1
  have hlt := hr.lt
  have h := hr1.push hc hl hnd (fun x hx => Nat.le_trans hS (hF x hx)) (fun x hx hG => by have := hlt x hG; have := hF x hx; omega)
    (fun g hg' hx => by have := (hr.own.lt g hg').2; have := hF g hx; omega) h2 hown' hg hv
  have z1 := hb1.size
  have z2 := h2.size
  have z3 := hg.size
  have hB : Below (w.heap.size + 2) wr w' := ((hb1.mono hS).trans (h2.mono (by omega))).grown hg (by omega) (fun k hk => (hr.own.lt k hk).1)
  refine ⟨j + 1, _, _, by go_num, hj, Lib.hid ?_, Lib.hid h, Lib.hid (hB0.below hB (by omega)), Lib.hid (hB1.below hB (by omega)), Lib.hid (hW.trans (hB.mono (by omega))), Lib.hid (by omega)⟩
  rw [List.map_append, he, List.take_succ_eq_append_getElem hj, List.map_append]; rfl
theorem eq_len {v : V} {es : List Ent} {j : Nat} (h : es.map (·.1) = (v.kids.take j).map V.srt) (hj : j ≤ v.kids.length) : es.length = j := by
  have := congrArg List.length h
  simpa [Nat.min_eq_left hj] using this
/-- What the sorting loop has laid: W, the world at its head. -/
def StRel (es : List Ent) (W : World) (o i : Value) (wr : World) : Prop :=
  ∃ (m jn on : Nat) (D : List PEnt) (g5 c5 : Nat), i = .int .i64 (jn : Int) ∧ o = .slice (some ⟨g5, 0, none⟩) on c5 ∧ jn ≤ 1000 ∧ on ≤ 1000 ∧ on ≤ c5 ∧ Hid (jn = 2 * m ∧ on = 2 * m ∧ D.length = m ∧ m ≤ es.length / 2) ∧ Hid (D.Perm ((pairsL es).take m)) ∧ Hid (D.Pairwise kle) ∧ Hid (wr.ownsRow W.heap.size 28 5 (.slice (some ⟨g5, 0, none⟩) on c5) on (flatP D)) ∧ Hid (Below W.heap.size W wr) ∧ Hid (W.heap.size ≤ wr.heap.size)
/-- What the search for the place has found. -/
def SeRel (x : PEnt) (D : List PEnt) (wr : World) (t : Value) (wq : World) : Prop :=
  ∃ (S1 S2 : List PEnt) (an : Nat), t = .int .i64 (an : Int) ∧ an ≤ 1000 ∧ Hid (an = 2 * S1.length) ∧ Hid (S1 ++ S2 = D) ∧ Hid (∀ s ∈ S2, kc x s < 0) ∧ Hid (Below wr.heap.size wr wq)
theorem kid_cells {W : World} {base gK cK m jn : Nat} {es : List Ent} {G : List Nat} {x : PEnt} (hr : RowOf W base (.slice (some ⟨gK, 0, none⟩) es.length cK) es G) (hj : jn = 2 * m) (h : jn + 1 < es.length) (hx : (pairsL es)[m]? = some x) :
    ∀ W' : World, Below W.heap.size W W' → W'.cell? ⟨gK, jn * 5, none⟩ = some (.int .i64 x.1.1.k) ∧ W'.cell? ⟨gK, jn * 5 + 1, none⟩ = some (.int .i64 x.1.1.n) ∧ W'.cell? ⟨gK, jn * 5 + 2, none⟩ = some (.int .i64 x.1.1.e) ∧ W'.cell? ⟨gK, jn * 5 + 3, none⟩ = some (.string x.1.1.s) ∧ W'.cell? ⟨gK, jn * 5 + 4, none⟩ = some (.slice x.1.2.1 x.1.1.kids.length x.1.2.2) ∧ W'.cell? ⟨gK, (jn + 1) * 5, none⟩ = some (.int .i64 x.2.1.k) ∧ W'.cell? ⟨gK, (jn + 1) * 5 + 1, none⟩ = some (.int .i64 x.2.1.n) ∧ W'.cell? ⟨gK, (jn + 1) * 5 + 2, none⟩ = some (.int .i64 x.2.1.e) ∧ W'.cell? ⟨gK, (jn + 1) * 5 + 3, none⟩ = some (.string x.2.1.s) ∧ W'.cell? ⟨gK, (jn + 1) * 5 + 4, none⟩ = some (.slice x.2.2.1 x.2.1.kids.length x.2.2.2) := by
  intro W' hb
  subst hj
  have hg : gK < W.heap.size := (hr.own.lt gK rfl).2
  rw [pairsL_at es m h] at hx
  injection hx with hx
  have k : ∀ (i q : Nat) (hi : i < es.length), q < 5 → W'.cell? ⟨gK, i * 5 + q, none⟩ = (es[i].cells)[q]? := fun i q hi hq => by
    rw [hb.cell (show (⟨gK, i * 5 + q, none⟩ : Addr).block < W.heap.size from hg), hr.own.cellAt (i * 5 + q) (by omega), flat_at es i q hi hq]
  have h0 : 2 * m < es.length := by omega
  have k1 := fun q hq => k (2 * m) q h0 hq
  have k2 := fun q hq => k (2 * m + 1) q h hq
  have e1 : es[2 * m] = x.1 := by rw [← hx]
  have e2 : es[2 * m + 1] = x.2 := by rw [← hx]
  rw [e1] at k1
  rw [e2] at k2
  exact ⟨k1 0 (by omega), k1 1 (by omega), k1 2 (by omega), k1 3 (by omega), k1 4 (by omega), k2 0 (by omega), k2 1 (by omega), k2 2 (by omega), k2 3 (by omega), k2 4 (by omega)⟩
theorem out_cells {w : World} {base g5 on c5 j kn : Nat} {D : List PEnt} {s : PEnt} (ho : w.ownsRow base 28 5 (.slice (some ⟨g5, 0, none⟩) on c5) on (flatP D)) (hs : D[j]? = some s) (hk : kn = 2 * j) (hon : on = 2 * D.length) :
    w.cell? ⟨g5, kn * 5, none⟩ = some (.int .i64 s.1.1.k) ∧ w.cell? ⟨g5, kn * 5 + 1, none⟩ = some (.int .i64 s.1.1.n) ∧ w.cell? ⟨g5, kn * 5 + 2, none⟩ = some (.int .i64 s.1.1.e) ∧ w.cell? ⟨g5, kn * 5 + 3, none⟩ = some (.string s.1.1.s) ∧ w.cell? ⟨g5, kn * 5 + 4, none⟩ = some (.slice s.1.2.1 s.1.1.kids.length s.1.2.2) := by
  obtain ⟨hj, hs⟩ := List.getElem?_eq_some_iff.1 hs
  have k : ∀ q, q < 5 → w.cell? ⟨g5, kn * 5 + q, none⟩ = (s.cells)[q]? := fun q hq => by
    rw [ho.cellAt (kn * 5 + q) (by omega), show kn * 5 + q = j * 10 + q by omega, flatP_at D j q hj (by omega), hs]
  exact ⟨k 0 (by omega), k 1 (by omega), k 2 (by omega), k 3 (by omega), k 4 (by omega)⟩
theorem news_cells {w : World} {base g5 on c5 : Nat} {D S1 S2 : List PEnt} (ho : w.ownsRow base 28 5 (.slice (some ⟨g5, 0, none⟩) on c5) on (flatP D)) (hs : S1 ++ S2 = D) (an : Nat) (han : an = 2 * S1.length) :
    (∀ W', Below w.heap.size w W' → ∀ j u, (flatP S1)[j]? = some u → W'.cell? ((⟨g5, 0, none⟩ : Addr).add j) = some u) ∧ (∀ W', Below w.heap.size w W' → ∀ j u, (flatP S2)[j]? = some u → W'.cell? ((⟨g5, an * 5, none⟩ : Addr).add j) = some u) := by
  have hg : g5 < w.heap.size := (ho.lt g5 rfl).2
  have hl := ho.1
  rw [flatP_len] at hl
  have hd : flatP D = flatP S1 ++ flatP S2 := by rw [← hs, flatP_app]
  have hl1 := flatP_len S1
  have hl2 := flatP_len S2
  have hD : D.length = S1.length + S2.length := by rw [← hs, List.length_append]
  refine ⟨fun W' hb j u hu => ?_, fun W' hb j u hu => ?_⟩
  · have hj : j < (flatP S1).length := (List.getElem?_eq_some_iff.1 hu).1
    rw [Addr.add_lit, Nat.zero_add, hb.cell (show (⟨g5, j, none⟩ : Addr).block < w.heap.size from hg), ho.cellAt j (by omega), hd, List.getElem?_append_left hj, hu]
  · have hj : j < (flatP S2).length := (List.getElem?_eq_some_iff.1 hu).1
    rw [Addr.add_lit, hb.cell (show (⟨g5, an * 5 + j, none⟩ : Addr).block < w.heap.size from hg), ho.cellAt (an * 5 + j) (by omega), hd, List.getElem?_append_right (by omega), show an * 5 + j - (flatP S1).length = j by omega, hu]
theorem ss_map {v : V} {w W w9 : World} {AK : Option Addr} {cK on g5 c5 : Nat} {es : List Ent} {G : List Nat} {D : List PEnt} (hf : mapFit v) (h8 : v.k = 8) (he : es.map (·.1) = v.kids.map V.srt)
    (hr : RowOf W (w.heap.size + 2) (.slice AK es.length cK) es G) (hS : w.heap.size + 2 ≤ W.heap.size) (hD : D.Perm (pairsL es)) (hp : D.Pairwise kle) (hn : on = 2 * D.length) (hs : ∀ c ∈ G, w9.heap[c]? = W.heap[c]?) (hsz : W.heap.size ≤ w9.heap.size)
    (ho : w9.ownsRow W.heap.size 28 5 (.slice (some ⟨g5, 0, none⟩) on c5) on (flatP D)) (hW : Below w.heap.size w w9) :
    Copied v.srt w (.returned (.agg #[.int .i64 v.k, .int .i64 v.n, .int .i64 v.e, .string v.s, .slice (some ⟨g5, 0, none⟩) on c5])) w9 := by
  obtain ⟨hl, hev, _⟩ := hf h8
  have hlen : es.length = v.kids.length := by have := congrArg List.length he; simpa using this
  have hL : (entsP D).length = on := by rw [entsP_len, hn]
  have ho' : w9.ownsRow w.heap.size 28 5 (.slice (some ⟨g5, 0, none⟩) on c5) on (flatP D) := own_up ho (fun g hg => by have := (ho.lt g hg).1; omega)
  rw [← hL] at ho'
  obtain ⟨G', hr'⟩ := sorted_row hr (by omega) hD hs hsz (fun c hc => by have := hr.low c hc; omega) ho' (fun g hg hG => by
    have h2 : W.heap.size ≤ g := (ho.lt g (by rw [hL] at hg; exact hg)).1
    have := hr.lt g hG
    omega)
  have e : v.srt = .mk v.k v.n v.e v.s ((entsP D).map (·.1)) := by rw [V.srt_eq, if_pos h8, (fit_keys hf h8 he).2 D hD hp]
  have h := sr_end e hr' (Nat.le_refl _) hW
  rw [hL] at h
  exact h
theorem nil_cells {W : World} {g : Nat} {S2 : List PEnt} (h : S2.length = 0) : ∀ j u, (flatP S2)[j]? = some u → W.cell? ((⟨g, 0, none⟩ : Addr).add j) = some u := by
  rw [List.eq_nil_of_length_eq_zero h]
  intro j u hu
  cases hu
theorem StRel.next {es : List Ent} {W wq w3 : World} {m jn on N : Nat} {D S1 S2 : List PEnt} {x : PEnt} {v3 : Value} {xs : List Value} (HJ : jn = 2 * m ∧ on = 2 * m ∧ D.length = m ∧ m ≤ es.length / 2) (hlt : jn + 1 < es.length) (hes : es.length ≤ 900) (HPM : D.Perm ((pairsL es).take m)) (HSO : D.Pairwise kle)
    (HX : (pairsL es).take (m + 1) = (pairsL es).take m ++ [x]) (HSS : S1 ++ S2 = D) (HS2 : ∀ s ∈ S2, kc x s < 0) (HLE : ∀ s ∈ S1, kle s x) (hN : N = on + 2) (hown : w3.ownsRow wq.heap.size 28 5 v3 N xs) (hxs : xs = flatP (S1 ++ x :: S2)) (hQ : Below W.heap.size W wq) (hb : Below wq.heap.size wq w3) :
    StRel es W v3 (.int .i64 ((jn : Int) + 2)) w3 := by
  have hz := hQ.size
  have ho2 : w3.ownsRow W.heap.size 28 5 v3 N xs := own_up hown (fun g hg => by have := (hown.lt g hg).1; omega)
  have hf : ∃ g c, v3 = .slice (some ⟨g, 0, none⟩) N c ∧ N ≤ c := by
    rcases ho2.2 with ⟨_, h0⟩ | ⟨g, c, cur, e, _, _, h3, _⟩
    · omega
    · exact ⟨g, c, e, h3⟩
  obtain ⟨g, c, rfl, hc⟩ := hf
  subst hN hxs
  subst HSS
  refine ⟨m + 1, jn + 2, on + 2, S1 ++ x :: S2, g, c, by go_num, rfl, by omega, by omega, hc, Lib.hid ⟨by omega, by omega, ?_, by omega⟩, Lib.hid ?_, Lib.hid (ins_sorted HSO HS2 HLE), Lib.hid ho2, Lib.hid (hQ.trans (hb.mono hz)), Lib.hid (by have := hb.size; omega)⟩
  · have := HJ.2.2.1
    simp only [List.length_append, List.length_cons] at this ⊢
    omega
  · rw [HX]
    exact List.perm_middle.trans ((HPM.cons x).trans (List.perm_append_singleton x _).symm)
theorem flatP_ones (d : List PEnt) : ∀ u ∈ flatP d, u.oneCell' = true := by
  intro u hu
  obtain ⟨x, _, hx⟩ := List.mem_flatMap.1 hu
  exact pent_ones x u hx
theorem pc_kept2 {wq w1 : World} (x : PEnt) (hg : ((wq.alloc (.cells #[] 28)).alloc (.cells (PEnt.cells x).toArray 28)).drew.grownBy w1 (some wq.heap.size)) : ∀ j u, (PEnt.cells x)[j]? = some u → w1.cell? ((⟨wq.heap.size + 1, 0, none⟩ : Addr).add j) = some u := by
  have h := Blk.new (wq.alloc (.cells #[] 28)) 28 (PEnt.cells x).toArray
  have hz : (wq.alloc (.cells #[] 28)).heap.size = wq.heap.size + 1 := by simp
  rw [hz] at h
  have h1 : Blk w1 (wq.heap.size + 1) 28 (PEnt.cells x).toArray := (hg.block _ h.lt (by simp)).trans h
  intro j u hu
  rw [Addr.add_lit, Nat.zero_add, h1.cell]
  simpa using hu
theorem pc_kept3 {wq w1 : World} (x : PEnt) (hg : ((wq.alloc (.cells (PEnt.cells x).toArray 28)).alloc (.cells #[] 28)).drew.grownBy w1 (some (wq.heap.size + 1))) : ∀ j u, (PEnt.cells x)[j]? = some u → w1.cell? ((⟨wq.heap.size, 0, none⟩ : Addr).add j) = some u := by
  have h := (Blk.new wq 28 (PEnt.cells x).toArray).alloc (.cells #[] 28)
  have h1 : Blk w1 wq.heap.size 28 (PEnt.cells x).toArray := (hg.block _ h.lt (by simp)).trans h
  intro j u hu
  rw [Addr.add_lit, Nat.zero_add, h1.cell]
  simpa using hu
set_option maxHeartbeats 4000000 in
theorem srtS_step (v : V) (hk : ∀ i (h : i < v.kids.length), SrtSaidS v.kids[i]) : SrtSaidS v := by
  intro A cap w hn hfit hat
  rw [V.nodes_eq] at hn
  have hl : v.kids.length ≤ 1048576 := by have := Vs.len_nodes v.kids; omega
  have HK := fun (i : Nat) (h : i < v.kids.length) (A' : Option Addr) (c : Nat) (w' : World) hf (hat' : Vs.at_ w' 0 w'.heap.size (v.kids[i]).kids A') => hk i h A' c w' (by have := Vs.nodes_get i h; omega) hf hat'
  have HC := Lib.hid HK
  have HA := Lib.hid hat
  have HF := Lib.hid hfit
  clear HK hk hat hfit
  unfold V.agg
  go_enter Tryd.func46, Tryd.ntmps46
  go_wp2_with fail
  go_loopw [3, 4] (fun o i wr => SsRel v A cap w o i wr) (fun _ i _ => v.kids.length - (intOf i).toNat)
  case atStart =>
    refine ⟨0, [], [], rfl, Nat.zero_le _, Lib.hid rfl, Lib.hid (RowOf.none ?_), Lib.hid (((Blk.new w _ _).alloc _).alloc _), Lib.hid ?_, Lib.hid ((((Below.refl _ w).alloc (Nat.le_refl _) _).alloc (by simp) _).alloc (by simp; omega) _), Lib.hid (by simp)⟩
    · have h := own_empty ((w.alloc (.cells #[.int .i64 v.k, .int .i64 v.n, .int .i64 v.e, .string v.s, .slice A v.kids.length cap] 28)).alloc (.cells #[.int .i64 0, .int .i64 0, .int .i64 0, .string ⟨#[]⟩, .slice none 0 0] 28)) 28 5
      simpa using h
    · have h := (Blk.new (w.alloc (.cells #[.int .i64 v.k, .int .i64 v.n, .int .i64 v.e, .string v.s, .slice A v.kids.length cap] 28)) 28 #[.int .i64 0, .int .i64 0, .int .i64 0, .string ⟨#[]⟩, .slice none 0 0]).alloc (.cells #[] 28)
      simpa using h
  case round =>
    obtain ⟨j, es, G, rfl, hj, HE, HR, HB0, HB1, HW, HS⟩ := hrel
    have HEL := Lib.hid (eq_len HE.out hj)
    obtain ⟨b0, b1, b2, b3, b4⟩ := HB0.out.five
    by_cases hlt : j < v.kids.length
    · have hlt2 : (j : Int) < (v.kids.length : Int) := by omega
      have HFK : (v.kids[j]).fitM := fit_get HF.out j hlt
      obtain ⟨b, off, A', cap', rfl, g1, g2, g3, ⟨c0, c1, c2, c3, c4⟩, g5⟩ := Vs.at_get j hlt (Vs.at_below HA.out HW.out (Nat.le_refl _))
      go_wp2_with fail
      refine (HC.out j hlt A' cap' _ HFK (Vs.at_more (Nat.le_refl _) HW.out.size _ _ g5)).mono ?_
      rintro e w1 ⟨A2, c2', F, rfl, hc2, hl2, hnd2, hF2, hb1⟩
      have HO := Lib.hid ((HR.out.below (Nat.le_refl _) hb1).own)
      have HN := Lib.hid (cells_new w1 (Ent.cells ((v.kids[j]).srt, A2, c2')).toArray 28)
      have HL2 := Lib.hid hl2
      have HND := Lib.hid hnd2
      have HF2 := Lib.hid hF2
      have HBB := Lib.hid hb1
      have hz1 : w.heap.size + 2 ≤ w1.heap.size := Nat.le_trans HS.out hb1.size
      have hsmall : es.length ≤ 1048576 := by have := HEL.out; omega
      clear c0 c1 c2 c3 c4 hl2 hnd2 hF2 hb1 b0 b1 b2 b3 b4
      unfold V.agg
      go_wp2_with (at_builtin; refine wpList_app2 rfl (.tmp 16) (.tmp 23) 26 rfl (w.heap.size + 2) 28 Tryd.underlying26 infoV rfl (by decide) rfl (HO.out.alloc _) (Nat.le_trans hz1 (by simp)) _ 1 1 (Ent.cells ((v.kids[j]).srt, A2, c2')) rfl rfl HN.out (ent_ones _) (by unfold maxLen; omega) (by omega) ?_; intro v' w' hown' hg' hv')
      go_roundw
      case rel => exact SsRel.next hlt HE.out HR.out HB0.out HB1.out HW.out HS.out hc2 HL2.out HND.out HF2.out HBB.out ((Below.refl _ w1).alloc (Nat.le_refl _) _) hown' hg' hv'
      case measure => simp [intOf]; omega
    · obtain rfl : j = v.kids.length := by omega
      have HE2 : Hid (es.map (·.1) = v.kids.map V.srt) := Lib.hid (by have := HE.out; rwa [List.take_length] at this)
      obtain ⟨AK, cK, rfl⟩ := own_slice HR.out.own
      have a0 := b0
      clear hlt hj
      by_cases h8 : v.k = 8
      · have he8 : (v.k == 8) = true := by simpa using h8
        have H8 := Lib.hid h8
        have HMF := Lib.hid (((V.fitM_eq v).1 HF.out).1)
        have hes9 : es.length ≤ 900 := by have := (HMF.out h8).1; have := HEL.out; omega
        have hev : es.length % 2 = 0 := by have := (HMF.out h8).2.1; have := HEL.out; omega
        have HEV := Lib.hid hev
        have HFK := Lib.hid (fit_keys HMF.out h8 HE2.out)
        clear h8 hev
        go_upto_region 7 with fail
        clear he8
        go_wp2_with fail
        obtain ⟨W, hW⟩ : ∃ W, W = wr := ⟨_, rfl⟩
        rw [← hW] at HB0 HB1 HW HS HR ⊢
        clear hW b0 b1 b2 b3 b4 a0
        go_loopw [5, 6, 7] (fun o i _ W' => StRel es W o i W') (fun _ i _ _ => es.length + 2 - (intOf i).toNat)
        case atStart =>
          exact ⟨0, 0, 0, [], W.heap.size, 0, rfl, rfl, Nat.zero_le _, Nat.zero_le _, Nat.le_refl _, Lib.hid ⟨rfl, rfl, rfl, Nat.zero_le _⟩, Lib.hid (List.Perm.refl _), Lib.hid List.Pairwise.nil, Lib.hid (own_empty W 28 5), Lib.hid ((Below.refl _ _).alloc (Nat.le_refl _) _), Lib.hid (by simp)⟩
        case round =>
          obtain ⟨m, jn, on, D, g5, c5, rfl, rfl, hjn, hon, hoc, HJ, HPM, HSO, HO, HT, HTS⟩ := hrel
          by_cases hlt : jn < es.length
          · have hlt2 : (jn : Int) < (es.length : Int) := by omega
            have hj1 : jn + 1 < es.length := by have := HJ.out; have := HEV.out; omega
            have hj12 : (jn : Int) + 1 < (es.length : Int) := by omega
            have hmM : m < (pairsL es).length := by rw [pairsL_len]; have := HJ.out; have := HEV.out; omega
            obtain ⟨x, hx⟩ : ∃ x, (pairsL es)[m] = x := ⟨_, rfl⟩
            have HX := Lib.hid (show (pairsL es).take (m + 1) = (pairsL es).take m ++ [x] by rw [List.take_succ_eq_append_getElem hmM, hx])
            have HLX := Lib.hid (HFK.out.1 x (by rw [← hx]; exact List.getElem_mem _))
            have HLD := Lib.hid (fun s hs => HFK.out.1 s (List.mem_of_mem_take (HPM.out.subset hs)))
            obtain ⟨gK, cK', e1, _⟩ := HR.out.own.form (by omega)
            injection e1 with e1 e2 e3
            subst e1
            subst e3
            have HKD := Lib.hid (kid_cells (x := x) HR.out HJ.out.1 hj1 (by rw [← hx]; exact List.getElem?_eq_getElem hmM))
            have hwj : IntKind.i64.wrap ((jn : Int) + 1) = (jn : Int) + 1 := by rw [IntKind.wrap_i64]; omega
            have hwj2 : IntKind.i64.wrap ((jn : Int) + 2) = (jn : Int) + 2 := by rw [IntKind.wrap_i64]; omega
            have htn : ((jn : Int) + 1).toNat = jn + 1 := by omega
            have p0 : (0 : Int) ≤ (jn : Int) + 1 := by omega
            have p00 : (0 : Int) ≤ (jn : Int) := by omega
            obtain ⟨W1, hW1⟩ : ∃ W1, W1 = wr := ⟨_, rfl⟩
            rw [← hW1] at HO HT HTS ⊢
            clear hW1 hx hmM
            go_wp2_with fail
            go_loopw [7] (fun t W' => SeRel x D W1 t W') (fun t _ => (intOf t).toNat)
            case atStart => exact ⟨D, [], on, rfl, hon, Lib.hid (by have := HJ.out; omega), Lib.hid (by simp), Lib.hid (fun s hs => by cases hs), Lib.hid (Below.refl _ _)⟩
            case round =>
              obtain ⟨S1, S2, an, rfl, han, HAN, HSS, HS2, HQ0⟩ := hrel
              have HQ := Lib.hid (HT.out.trans (HQ0.out.mono HTS.out))
              rcases List.eq_nil_or_concat S1 with hS1 | ⟨S1', s, hS1⟩
              · have han0 : an = 0 := by have := HAN.out; rw [hS1] at this; simpa using this
                have qj : decide ((0 : Int) < (an : Int)) = false := decide_eq_false (by omega)
                have qjn : decide (0 < an) = false := decide_eq_false (by omega)
                have qjl : (an : Int) ≤ 0 := by omega
                have HLE : Hid (∀ s ∈ S1, kle s x) := Lib.hid (by rw [hS1]; intro s hs; cases hs)
                clear han0 hS1
                go_wp2_with fail
                go_quiet (fail)
                go_wp2_with fail
                generalize hwq : wr.drewN nq = wq
                have HQ1 : Hid (Below W1.heap.size W1 wq) := Lib.hid (by rw [← hwq]; exact below_drewN HQ0.out _)
                clear qj qjn qjl hwq
                by_cases hce : c5 = an
                · subst c5
                  have HOq := Lib.hid (own_below HO.out HQ1.out)
                  have HN1 := Lib.hid (news_cells HOq.out HSS.out an HAN.out).1
                  have HN3 := Lib.hid (fun (W' : World) (h : Below wq.heap.size wq W') => nil_cells (W := W') (g := g5) (S2 := S2) (by have h1 := HJ.out; have h2 := HAN.out; have h3 := congrArg List.length HSS.out; rw [List.length_append] at h3; omega))
                  have HQW := Lib.hid (HT.out.trans (HQ1.out.mono HTS.out))
                  have KE := Lib.hid (fun (W' : World) (h : Below wq.heap.size wq W') => HKD.out W' (HQW.out.trans (h.mono HQW.out.size)))
                  have hq0 : Below wq.heap.size wq wq := Below.refl _ _
                  obtain ⟨x0, x1, x2, x3, x4, y0, y1, y2, y3, y4⟩ := KE.out wq hq0
                  have hlS : S1.length + S2.length = D.length := by rw [← HSS.out, List.length_append]
                  have hao : an ≤ on := by have := HJ.out; have := HAN.out; omega
                  have hao2 : (an : Int) ≤ (on : Int) := by omega
                  have hac2 : (an : Int) ≤ (an : Int) := by omega
                  have hac : an ≤ an := by omega
                  have hl1 : (flatP S1).length = an * 5 := by rw [flatP_len]; have := HAN.out; omega
                  have hl3 : (flatP S2).length = (on - an) * 5 := by rw [flatP_len]; have := HAN.out; have := HJ.out; omega
                  have HL1 := Lib.hid hl1
                  have HL3 := Lib.hid hl3
                  have HL30 : Hid ((flatP S2).length = 0 * 5) := Lib.hid (by omega)
                  have E1 : Hid ((wq.alloc (.cells #[] 28)).drew.ownsRow wq.heap.size 28 5 (.slice (some ⟨wq.heap.size, 0, none⟩) 0 0) 0 []) := Lib.hid (own_empty wq 28 5)
                  have E2 : Hid (((wq.alloc (.cells #[] 28)).alloc (.cells (PEnt.cells x).toArray 28)).drew.ownsRow wq.heap.size 28 5 (.slice (some ⟨wq.heap.size, 0, none⟩) 0 0) 0 []) := Lib.hid ((own_empty wq 28 5).alloc _)
                  have E3 : Hid (((wq.alloc (.cells (PEnt.cells x).toArray 28)).alloc (.cells #[] 28)).drew.ownsRow wq.heap.size 28 5 (.slice (some ⟨wq.heap.size + 1, 0, none⟩) 0 0) 0 []) := Lib.hid (by have h := own_empty' (w := wq.alloc (.cells (PEnt.cells x).toArray 28)) (base := wq.heap.size) 28 5 (by simp); have h2 : (wq.alloc (.cells (PEnt.cells x).toArray 28)).heap.size = wq.heap.size + 1 := (by simp); rw [h2] at h; exact h)
                  have B1 : Hid (Below wq.heap.size wq (wq.alloc (.cells #[] 28)).drew) := Lib.hid (hq0.alloc (Nat.le_refl _) _).drew
                  have B1' : Hid (Below wq.heap.size wq (wq.alloc (.cells (PEnt.cells x).toArray 28)).drew) := Lib.hid (hq0.alloc (Nat.le_refl _) _).drew
                  have B2 : Hid (Below wq.heap.size wq ((wq.alloc (.cells #[] 28)).alloc (.cells (PEnt.cells x).toArray 28)).drew) := Lib.hid ((hq0.alloc (Nat.le_refl _) _).alloc (by simp) _).drew
                  have B3 : Hid (Below wq.heap.size wq ((wq.alloc (.cells (PEnt.cells x).toArray 28)).alloc (.cells #[] 28)).drew) := Lib.hid ((hq0.alloc (Nat.le_refl _) _).alloc (by simp) _).drew
                  clear hlS hl1 hl3
                  go_region_held3 (fun W' => W'.cell? ⟨gK, jn * 5, none⟩ = some (.int .i64 x.1.1.k) ∧ W'.cell? ⟨gK, jn * 5 + 1, none⟩ = some (.int .i64 x.1.1.n) ∧ W'.cell? ⟨gK, jn * 5 + 2, none⟩ = some (.int .i64 x.1.1.e) ∧ W'.cell? ⟨gK, jn * 5 + 3, none⟩ = some (.string x.1.1.s) ∧ W'.cell? ⟨gK, jn * 5 + 4, none⟩ = some (.slice x.1.2.1 x.1.1.kids.length x.1.2.2) ∧ W'.cell? ⟨gK, (jn + 1) * 5, none⟩ = some (.int .i64 x.2.1.k) ∧ W'.cell? ⟨gK, (jn + 1) * 5 + 1, none⟩ = some (.int .i64 x.2.1.n) ∧ W'.cell? ⟨gK, (jn + 1) * 5 + 2, none⟩ = some (.int .i64 x.2.1.e) ∧ W'.cell? ⟨gK, (jn + 1) * 5 + 3, none⟩ = some (.string x.2.1.s) ∧ W'.cell? ⟨gK, (jn + 1) * 5 + 4, none⟩ = some (.slice x.2.2.1 x.2.1.kids.length x.2.2.2))
                    (first | exact KE.out _ hb3 | exact KE.out _ hb2 | exact KE.out _ (hb1.alloc hb1.size _) | exact KE.out _ hb1 | exact KE.out _ B1.out | exact KE.out _ B1'.out | exact KE.out _ B2.out | exact KE.out _ B3.out | exact KE.out _ hq0.drew | exact KE.out _ hq0)
                    (first
                      | (refine step_app2 rfl (.tmp 54) (.tmp 57) 26 rfl wq.heap.size 28 Tryd.underlying26 infoV rfl (by decide) rfl E1.out (by simp; try omega) _ an _ (flatP S1) rfl HL1.out (HN1.out _ B1.out) (flatP_ones S1) (by unfold maxLen; omega) (by omega) ?_; intro v1 w1 hownw1 hgrw1; have hb1 := Below.grown B1.out hgrw1 (by simp) (fun k hk => (E1.out.lt k hk).1); have hpc := True.intro)
                      | (refine step_app2 rfl (.tmp 54) (.tmp 57) 26 rfl wq.heap.size 28 Tryd.underlying26 infoV rfl (by decide) rfl E2.out (by simp; try omega) _ an _ (flatP S1) rfl HL1.out (HN1.out _ B2.out) (flatP_ones S1) (by unfold maxLen; omega) (by omega) ?_; intro v1 w1 hownw1 hgrw1; have hb1 := Below.grown B2.out hgrw1 (by simp; omega) (fun k hk => (E2.out.lt k hk).1); have hpc := pc_kept2 x hgrw1)
                      | (refine step_app2 rfl (.tmp 54) (.tmp 57) 26 rfl wq.heap.size 28 Tryd.underlying26 infoV rfl (by decide) rfl E3.out (by simp; try omega) _ an _ (flatP S1) rfl HL1.out (HN1.out _ B3.out) (flatP_ones S1) (by unfold maxLen; omega) (by omega) ?_; intro v1 w1 hownw1 hgrw1; have hb1 := Below.grown B3.out hgrw1 (by simp; omega) (fun k hk => (E3.out.lt k hk).1); have hpc := pc_kept3 x hgrw1)
                      | (refine step_app2 rfl (.tmp 58) (.tmp 68) 26 rfl wq.heap.size 28 Tryd.underlying26 infoV rfl (by decide) rfl (hownw1.alloc _) (Nat.le_trans hb1.size (by simp)) _ 2 _ (PEnt.cells x) rfl rfl (cells_new w1 (PEnt.cells x).toArray 28) (pent_ones x) (by unfold maxLen; omega) (by omega) ?_; intro v2 w2 hownw2 hgrw2; have hb2 := Below.grown (hb1.alloc hb1.size _) hgrw2 (Nat.le_trans hb1.size (by simp)) (fun k hk => (hownw1.lt k hk).1))
                      | (refine step_app2 rfl (.tmp 58) (.tmp 68) 26 rfl wq.heap.size 28 Tryd.underlying26 infoV rfl (by decide) rfl hownw1 hb1.size _ 2 _ (PEnt.cells x) rfl rfl hpc (pent_ones x) (by unfold maxLen; omega) (by omega) ?_; intro v2 w2 hownw2 hgrw2; have hb2 := Below.grown hb1 hgrw2 hb1.size (fun k hk => (hownw1.lt k hk).1))
                      | (refine step_app2 rfl (.tmp 69) (.tmp 72) 26 rfl wq.heap.size 28 Tryd.underlying26 infoV rfl (by decide) rfl hownw2 hb2.size _ 0 _ (flatP S2) rfl HL30.out (HN3.out _ hb2) (flatP_ones S2) (by unfold maxLen; omega) (by omega) ?_; intro v3 w3 hownw3 hgrw3; have hb3 := Below.grown hb2 hgrw3 hb2.size (fun k hk => (hownw2.lt k hk).1)))
                  all_goals
                    clear x0 x1 x2 x3 x4 y0 y1 y2 y3 y4 hpc hownw1 hownw2 hgrw1 hgrw2 hgrw3 hb1 hb2 hac hac2 hao2 hq0 E1 E2 E3 B1 B1' B2 B3 HN1 HN3 HOq KE
                    go_wp2_with fail
                    go_roundw
                    case rel => exact StRel.next HJ.out hj1 hes9 HPM.out HSO.out HX.out HSS.out HS2.out HLE.out (by have := HJ.out; omega) hownw3 (by simp [flatP_app, flatP_cons]) HQW.out hb3
                    case measure => simp [intOf]; omega
                · skip
                  have HOq := Lib.hid (own_below HO.out HQ1.out)
                  have HN1 := Lib.hid (news_cells HOq.out HSS.out an HAN.out).1
                  have HN3 := Lib.hid (news_cells HOq.out HSS.out an HAN.out).2
                  have HQW := Lib.hid (HT.out.trans (HQ1.out.mono HTS.out))
                  have KE := Lib.hid (fun (W' : World) (h : Below wq.heap.size wq W') => HKD.out W' (HQW.out.trans (h.mono HQW.out.size)))
                  have hq0 : Below wq.heap.size wq wq := Below.refl _ _
                  obtain ⟨x0, x1, x2, x3, x4, y0, y1, y2, y3, y4⟩ := KE.out wq hq0
                  have hlS : S1.length + S2.length = D.length := by rw [← HSS.out, List.length_append]
                  have hao : an ≤ on := by have := HJ.out; have := HAN.out; omega
                  have hao2 : (an : Int) ≤ (on : Int) := by omega
                  have hac2 : (an : Int) ≤ (c5 : Int) := by omega
                  have hac : an ≤ c5 := by omega
                  have hl1 : (flatP S1).length = an * 5 := by rw [flatP_len]; have := HAN.out; omega
                  have hl3 : (flatP S2).length = (on - an) * 5 := by rw [flatP_len]; have := HAN.out; have := HJ.out; omega
                  have HL1 := Lib.hid hl1
                  have HL3 := Lib.hid hl3
                  skip
                  have E1 : Hid ((wq.alloc (.cells #[] 28)).drew.ownsRow wq.heap.size 28 5 (.slice (some ⟨wq.heap.size, 0, none⟩) 0 0) 0 []) := Lib.hid (own_empty wq 28 5)
                  have E2 : Hid (((wq.alloc (.cells #[] 28)).alloc (.cells (PEnt.cells x).toArray 28)).drew.ownsRow wq.heap.size 28 5 (.slice (some ⟨wq.heap.size, 0, none⟩) 0 0) 0 []) := Lib.hid ((own_empty wq 28 5).alloc _)
                  have E3 : Hid (((wq.alloc (.cells (PEnt.cells x).toArray 28)).alloc (.cells #[] 28)).drew.ownsRow wq.heap.size 28 5 (.slice (some ⟨wq.heap.size + 1, 0, none⟩) 0 0) 0 []) := Lib.hid (by have h := own_empty' (w := wq.alloc (.cells (PEnt.cells x).toArray 28)) (base := wq.heap.size) 28 5 (by simp); have h2 : (wq.alloc (.cells (PEnt.cells x).toArray 28)).heap.size = wq.heap.size + 1 := (by simp); rw [h2] at h; exact h)
                  have B1 : Hid (Below wq.heap.size wq (wq.alloc (.cells #[] 28)).drew) := Lib.hid (hq0.alloc (Nat.le_refl _) _).drew
                  have B1' : Hid (Below wq.heap.size wq (wq.alloc (.cells (PEnt.cells x).toArray 28)).drew) := Lib.hid (hq0.alloc (Nat.le_refl _) _).drew
                  have B2 : Hid (Below wq.heap.size wq ((wq.alloc (.cells #[] 28)).alloc (.cells (PEnt.cells x).toArray 28)).drew) := Lib.hid ((hq0.alloc (Nat.le_refl _) _).alloc (by simp) _).drew
                  have B3 : Hid (Below wq.heap.size wq ((wq.alloc (.cells (PEnt.cells x).toArray 28)).alloc (.cells #[] 28)).drew) := Lib.hid ((hq0.alloc (Nat.le_refl _) _).alloc (by simp) _).drew
                  clear hlS hl1 hl3
                  go_region_held3 (fun W' => W'.cell? ⟨gK, jn * 5, none⟩ = some (.int .i64 x.1.1.k) ∧ W'.cell? ⟨gK, jn * 5 + 1, none⟩ = some (.int .i64 x.1.1.n) ∧ W'.cell? ⟨gK, jn * 5 + 2, none⟩ = some (.int .i64 x.1.1.e) ∧ W'.cell? ⟨gK, jn * 5 + 3, none⟩ = some (.string x.1.1.s) ∧ W'.cell? ⟨gK, jn * 5 + 4, none⟩ = some (.slice x.1.2.1 x.1.1.kids.length x.1.2.2) ∧ W'.cell? ⟨gK, (jn + 1) * 5, none⟩ = some (.int .i64 x.2.1.k) ∧ W'.cell? ⟨gK, (jn + 1) * 5 + 1, none⟩ = some (.int .i64 x.2.1.n) ∧ W'.cell? ⟨gK, (jn + 1) * 5 + 2, none⟩ = some (.int .i64 x.2.1.e) ∧ W'.cell? ⟨gK, (jn + 1) * 5 + 3, none⟩ = some (.string x.2.1.s) ∧ W'.cell? ⟨gK, (jn + 1) * 5 + 4, none⟩ = some (.slice x.2.2.1 x.2.1.kids.length x.2.2.2))
                    (first | exact KE.out _ hb3 | exact KE.out _ hb2 | exact KE.out _ (hb1.alloc hb1.size _) | exact KE.out _ hb1 | exact KE.out _ B1.out | exact KE.out _ B1'.out | exact KE.out _ B2.out | exact KE.out _ B3.out | exact KE.out _ hq0.drew | exact KE.out _ hq0)
                    (first
                      | (refine step_app2 rfl (.tmp 54) (.tmp 57) 26 rfl wq.heap.size 28 Tryd.underlying26 infoV rfl (by decide) rfl E1.out (by simp; try omega) _ an _ (flatP S1) rfl HL1.out (HN1.out _ B1.out) (flatP_ones S1) (by unfold maxLen; omega) (by omega) ?_; intro v1 w1 hownw1 hgrw1; have hb1 := Below.grown B1.out hgrw1 (by simp) (fun k hk => (E1.out.lt k hk).1); have hpc := True.intro)
                      | (refine step_app2 rfl (.tmp 54) (.tmp 57) 26 rfl wq.heap.size 28 Tryd.underlying26 infoV rfl (by decide) rfl E2.out (by simp; try omega) _ an _ (flatP S1) rfl HL1.out (HN1.out _ B2.out) (flatP_ones S1) (by unfold maxLen; omega) (by omega) ?_; intro v1 w1 hownw1 hgrw1; have hb1 := Below.grown B2.out hgrw1 (by simp; omega) (fun k hk => (E2.out.lt k hk).1); have hpc := pc_kept2 x hgrw1)
                      | (refine step_app2 rfl (.tmp 54) (.tmp 57) 26 rfl wq.heap.size 28 Tryd.underlying26 infoV rfl (by decide) rfl E3.out (by simp; try omega) _ an _ (flatP S1) rfl HL1.out (HN1.out _ B3.out) (flatP_ones S1) (by unfold maxLen; omega) (by omega) ?_; intro v1 w1 hownw1 hgrw1; have hb1 := Below.grown B3.out hgrw1 (by simp; omega) (fun k hk => (E3.out.lt k hk).1); have hpc := pc_kept3 x hgrw1)
                      | (refine step_app2 rfl (.tmp 58) (.tmp 68) 26 rfl wq.heap.size 28 Tryd.underlying26 infoV rfl (by decide) rfl (hownw1.alloc _) (Nat.le_trans hb1.size (by simp)) _ 2 _ (PEnt.cells x) rfl rfl (cells_new w1 (PEnt.cells x).toArray 28) (pent_ones x) (by unfold maxLen; omega) (by omega) ?_; intro v2 w2 hownw2 hgrw2; have hb2 := Below.grown (hb1.alloc hb1.size _) hgrw2 (Nat.le_trans hb1.size (by simp)) (fun k hk => (hownw1.lt k hk).1))
                      | (refine step_app2 rfl (.tmp 58) (.tmp 68) 26 rfl wq.heap.size 28 Tryd.underlying26 infoV rfl (by decide) rfl hownw1 hb1.size _ 2 _ (PEnt.cells x) rfl rfl hpc (pent_ones x) (by unfold maxLen; omega) (by omega) ?_; intro v2 w2 hownw2 hgrw2; have hb2 := Below.grown hb1 hgrw2 hb1.size (fun k hk => (hownw1.lt k hk).1))
                      | (refine step_app2 rfl (.tmp 69) (.tmp 72) 26 rfl wq.heap.size 28 Tryd.underlying26 infoV rfl (by decide) rfl hownw2 hb2.size _ (on - an) _ (flatP S2) rfl HL3.out (HN3.out _ hb2) (flatP_ones S2) (by unfold maxLen; omega) (by omega) ?_; intro v3 w3 hownw3 hgrw3; have hb3 := Below.grown hb2 hgrw3 hb2.size (fun k hk => (hownw2.lt k hk).1)))
                  all_goals
                    clear x0 x1 x2 x3 x4 y0 y1 y2 y3 y4 hpc hownw1 hownw2 hgrw1 hgrw2 hgrw3 hb1 hb2 hce hac hac2 hao2 hq0 E1 E2 E3 B1 B1' B2 B3 HN1 HN3 HOq KE
                    go_wp2_with fail
                    go_roundw
                    case rel => exact StRel.next HJ.out hj1 hes9 HPM.out HSO.out HX.out HSS.out HS2.out HLE.out (by have := HJ.out; omega) hownw3 (by simp [flatP_app, flatP_cons]) HQW.out hb3
                    case measure => simp [intOf]; omega
              · rw [List.concat_eq_append] at hS1
                obtain ⟨kn, hkn⟩ : ∃ kn, an = kn + 2 := ⟨an - 2, by have := HAN.out; rw [hS1] at this; simp at this; omega⟩
                have HKN := Lib.hid hkn
                have HS1 := Lib.hid hS1
                have qj : decide ((0 : Int) < (an : Int)) = true := decide_eq_true (by omega)
                have qjn : decide (0 < an) = true := decide_eq_true (by omega)
                have hwk : IntKind.i64.wrap ((an : Int) - 2) = (kn : Int) := by rw [IntKind.wrap_i64]; omega
                have hkN : (kn : Int) < (on : Int) := by
                  have h1 := HJ.out
                  have h2 := congrArg List.length HSS.out
                  have h3 := HAN.out
                  rw [List.length_append] at h2
                  omega
                obtain ⟨x0, x1, x2, x3, x4, y0, y1, y2, y3, y4⟩ := HKD.out wr HQ.out
                obtain ⟨z0, z1, z2, z3, z4⟩ := out_cells (own_below HO.out HQ0.out) (j := S1'.length) (s := s) (kn := kn) (by rw [← HSS.out, hS1]; simp) (by have := HAN.out; rw [hS1] at this; simp at this; omega) (by have := HJ.out; omega)
                have HCM := Lib.hid (fun W' => specCmp s.1.1 x.1.1 s.1.2.1 x.1.2.1 s.1.2.2 x.1.2.2 W' (leaf_nodes (HLD.out s (by rw [← HSS.out, hS1]; simp))) (leaf_nodes HLX.out) (by rw [show s.1.1.kids = [] from HLD.out s (by rw [← HSS.out, hS1]; simp)]; simp only [Vs.at_]) (by rw [show x.1.1.kids = [] from HLX.out]; simp only [Vs.at_]))
                clear hkn hS1
                unfold V.agg at HCM
                go_upto_region 12 with fail
                go_still_tail 12, (by kernel_rfl)
                change wpList _ _ _ _ _ wr.drew
                go_wp2_with fail
                refine (HCM.out wr.drew).mono ?_
                rintro e wq ⟨rfl, hbq⟩
                have HQ1 : Hid (Below W1.heap.size W1 wq) := Lib.hid (HQ0.out.drew.trans (hbq.mono HQ0.out.size))
                clear hbq x0 x1 x2 x3 x4 y0 y1 y2 y3 y4 z0 z1 z2 z3 z4 HCM
                by_cases hc : 0 < V.cmp s.1.1 x.1.1
                · have qc : decide (0 < V.cmp s.1.1 x.1.1) = true := decide_eq_true hc
                  have HCC := Lib.hid hc
                  clear hc
                  go_wp2_with fail
                  go_roundw
                  case rel => exact ⟨S1', s :: S2, kn, by go_num, by have := HKN.out; omega, Lib.hid (by have := HAN.out; rw [HS1.out] at this; simp at this; have := HKN.out; omega), Lib.hid (by rw [← HSS.out, HS1.out]; simp), Lib.hid (by
                    intro t ht
                    rcases List.mem_cons.1 ht with rfl | ht
                    · have := kc_swap t x; have := HCC.out; unfold kc at *; omega
                    · exact HS2.out t ht), HQ1⟩
                  case measure => simp [intOf]; have := HKN.out; omega
                · have qc : decide (0 < V.cmp s.1.1 x.1.1) = false := decide_eq_false hc
                  have HLE : Hid (∀ t ∈ S1, kle t x) := Lib.hid (by
                    have h := HSO.out
                    rw [← HSS.out, List.pairwise_append, HS1.out] at h
                    rw [HS1.out]
                    exact last_le h.1 (by unfold kle kc; omega))
                  clear hc
                  go_wp2_with fail
                  clear qj qjn hwk hkN qc
                  by_cases hce : c5 = an
                  · subst c5
                    have HOq := Lib.hid (own_below HO.out HQ1.out)
                    have HN1 := Lib.hid (news_cells HOq.out HSS.out an HAN.out).1
                    have HN3 := Lib.hid (fun (W' : World) (h : Below wq.heap.size wq W') => nil_cells (W := W') (g := g5) (S2 := S2) (by have h1 := HJ.out; have h2 := HAN.out; have h3 := congrArg List.length HSS.out; rw [List.length_append] at h3; omega))
                    have HQW := Lib.hid (HT.out.trans (HQ1.out.mono HTS.out))
                    have KE := Lib.hid (fun (W' : World) (h : Below wq.heap.size wq W') => HKD.out W' (HQW.out.trans (h.mono HQW.out.size)))
                    have hq0 : Below wq.heap.size wq wq := Below.refl _ _
                    obtain ⟨x0, x1, x2, x3, x4, y0, y1, y2, y3, y4⟩ := KE.out wq hq0
                    have hlS : S1.length + S2.length = D.length := by rw [← HSS.out, List.length_append]
                    have hao : an ≤ on := by have := HJ.out; have := HAN.out; omega
                    have hao2 : (an : Int) ≤ (on : Int) := by omega
                    have hac2 : (an : Int) ≤ (an : Int) := by omega
                    have hac : an ≤ an := by omega
                    have hl1 : (flatP S1).length = an * 5 := by rw [flatP_len]; have := HAN.out; omega
                    have hl3 : (flatP S2).length = (on - an) * 5 := by rw [flatP_len]; have := HAN.out; have := HJ.out; omega
                    have HL1 := Lib.hid hl1
                    have HL3 := Lib.hid hl3
                    have HL30 : Hid ((flatP S2).length = 0 * 5) := Lib.hid (by omega)
                    have E1 : Hid ((wq.alloc (.cells #[] 28)).drew.ownsRow wq.heap.size 28 5 (.slice (some ⟨wq.heap.size, 0, none⟩) 0 0) 0 []) := Lib.hid (own_empty wq 28 5)
                    have E2 : Hid (((wq.alloc (.cells #[] 28)).alloc (.cells (PEnt.cells x).toArray 28)).drew.ownsRow wq.heap.size 28 5 (.slice (some ⟨wq.heap.size, 0, none⟩) 0 0) 0 []) := Lib.hid ((own_empty wq 28 5).alloc _)
                    have E3 : Hid (((wq.alloc (.cells (PEnt.cells x).toArray 28)).alloc (.cells #[] 28)).drew.ownsRow wq.heap.size 28 5 (.slice (some ⟨wq.heap.size + 1, 0, none⟩) 0 0) 0 []) := Lib.hid (by have h := own_empty' (w := wq.alloc (.cells (PEnt.cells x).toArray 28)) (base := wq.heap.size) 28 5 (by simp); have h2 : (wq.alloc (.cells (PEnt.cells x).toArray 28)).heap.size = wq.heap.size + 1 := (by simp); rw [h2] at h; exact h)
                    have B1 : Hid (Below wq.heap.size wq (wq.alloc (.cells #[] 28)).drew) := Lib.hid (hq0.alloc (Nat.le_refl _) _).drew
                    have B1' : Hid (Below wq.heap.size wq (wq.alloc (.cells (PEnt.cells x).toArray 28)).drew) := Lib.hid (hq0.alloc (Nat.le_refl _) _).drew
                    have B2 : Hid (Below wq.heap.size wq ((wq.alloc (.cells #[] 28)).alloc (.cells (PEnt.cells x).toArray 28)).drew) := Lib.hid ((hq0.alloc (Nat.le_refl _) _).alloc (by simp) _).drew
                    have B3 : Hid (Below wq.heap.size wq ((wq.alloc (.cells (PEnt.cells x).toArray 28)).alloc (.cells #[] 28)).drew) := Lib.hid ((hq0.alloc (Nat.le_refl _) _).alloc (by simp) _).drew
                    clear hlS hl1 hl3
                    go_region_held3 (fun W' => W'.cell? ⟨gK, jn * 5, none⟩ = some (.int .i64 x.1.1.k) ∧ W'.cell? ⟨gK, jn * 5 + 1, none⟩ = some (.int .i64 x.1.1.n) ∧ W'.cell? ⟨gK, jn * 5 + 2, none⟩ = some (.int .i64 x.1.1.e) ∧ W'.cell? ⟨gK, jn * 5 + 3, none⟩ = some (.string x.1.1.s) ∧ W'.cell? ⟨gK, jn * 5 + 4, none⟩ = some (.slice x.1.2.1 x.1.1.kids.length x.1.2.2) ∧ W'.cell? ⟨gK, (jn + 1) * 5, none⟩ = some (.int .i64 x.2.1.k) ∧ W'.cell? ⟨gK, (jn + 1) * 5 + 1, none⟩ = some (.int .i64 x.2.1.n) ∧ W'.cell? ⟨gK, (jn + 1) * 5 + 2, none⟩ = some (.int .i64 x.2.1.e) ∧ W'.cell? ⟨gK, (jn + 1) * 5 + 3, none⟩ = some (.string x.2.1.s) ∧ W'.cell? ⟨gK, (jn + 1) * 5 + 4, none⟩ = some (.slice x.2.2.1 x.2.1.kids.length x.2.2.2))
                      (first | exact KE.out _ hb3 | exact KE.out _ hb2 | exact KE.out _ (hb1.alloc hb1.size _) | exact KE.out _ hb1 | exact KE.out _ B1.out | exact KE.out _ B1'.out | exact KE.out _ B2.out | exact KE.out _ B3.out | exact KE.out _ hq0.drew | exact KE.out _ hq0)
                      (first
                        | (refine step_app2 rfl (.tmp 54) (.tmp 57) 26 rfl wq.heap.size 28 Tryd.underlying26 infoV rfl (by decide) rfl E1.out (by simp; try omega) _ an _ (flatP S1) rfl HL1.out (HN1.out _ B1.out) (flatP_ones S1) (by unfold maxLen; omega) (by omega) ?_; intro v1 w1 hownw1 hgrw1; have hb1 := Below.grown B1.out hgrw1 (by simp) (fun k hk => (E1.out.lt k hk).1); have hpc := True.intro)
                        | (refine step_app2 rfl (.tmp 54) (.tmp 57) 26 rfl wq.heap.size 28 Tryd.underlying26 infoV rfl (by decide) rfl E2.out (by simp; try omega) _ an _ (flatP S1) rfl HL1.out (HN1.out _ B2.out) (flatP_ones S1) (by unfold maxLen; omega) (by omega) ?_; intro v1 w1 hownw1 hgrw1; have hb1 := Below.grown B2.out hgrw1 (by simp; omega) (fun k hk => (E2.out.lt k hk).1); have hpc := pc_kept2 x hgrw1)
                        | (refine step_app2 rfl (.tmp 54) (.tmp 57) 26 rfl wq.heap.size 28 Tryd.underlying26 infoV rfl (by decide) rfl E3.out (by simp; try omega) _ an _ (flatP S1) rfl HL1.out (HN1.out _ B3.out) (flatP_ones S1) (by unfold maxLen; omega) (by omega) ?_; intro v1 w1 hownw1 hgrw1; have hb1 := Below.grown B3.out hgrw1 (by simp; omega) (fun k hk => (E3.out.lt k hk).1); have hpc := pc_kept3 x hgrw1)
                        | (refine step_app2 rfl (.tmp 58) (.tmp 68) 26 rfl wq.heap.size 28 Tryd.underlying26 infoV rfl (by decide) rfl (hownw1.alloc _) (Nat.le_trans hb1.size (by simp)) _ 2 _ (PEnt.cells x) rfl rfl (cells_new w1 (PEnt.cells x).toArray 28) (pent_ones x) (by unfold maxLen; omega) (by omega) ?_; intro v2 w2 hownw2 hgrw2; have hb2 := Below.grown (hb1.alloc hb1.size _) hgrw2 (Nat.le_trans hb1.size (by simp)) (fun k hk => (hownw1.lt k hk).1))
                        | (refine step_app2 rfl (.tmp 58) (.tmp 68) 26 rfl wq.heap.size 28 Tryd.underlying26 infoV rfl (by decide) rfl hownw1 hb1.size _ 2 _ (PEnt.cells x) rfl rfl hpc (pent_ones x) (by unfold maxLen; omega) (by omega) ?_; intro v2 w2 hownw2 hgrw2; have hb2 := Below.grown hb1 hgrw2 hb1.size (fun k hk => (hownw1.lt k hk).1))
                        | (refine step_app2 rfl (.tmp 69) (.tmp 72) 26 rfl wq.heap.size 28 Tryd.underlying26 infoV rfl (by decide) rfl hownw2 hb2.size _ 0 _ (flatP S2) rfl HL30.out (HN3.out _ hb2) (flatP_ones S2) (by unfold maxLen; omega) (by omega) ?_; intro v3 w3 hownw3 hgrw3; have hb3 := Below.grown hb2 hgrw3 hb2.size (fun k hk => (hownw2.lt k hk).1)))
                    all_goals
                      clear x0 x1 x2 x3 x4 y0 y1 y2 y3 y4 hpc hownw1 hownw2 hgrw1 hgrw2 hgrw3 hb1 hb2 hac hac2 hao2 hq0 E1 E2 E3 B1 B1' B2 B3 HN1 HN3 HOq KE
                      go_wp2_with fail
                      go_roundw
                      case rel => exact StRel.next HJ.out hj1 hes9 HPM.out HSO.out HX.out HSS.out HS2.out HLE.out (by have := HJ.out; omega) hownw3 (by simp [flatP_app, flatP_cons]) HQW.out hb3
                      case measure => simp [intOf]; omega
                  · skip
                    have HOq := Lib.hid (own_below HO.out HQ1.out)
                    have HN1 := Lib.hid (news_cells HOq.out HSS.out an HAN.out).1
                    have HN3 := Lib.hid (news_cells HOq.out HSS.out an HAN.out).2
                    have HQW := Lib.hid (HT.out.trans (HQ1.out.mono HTS.out))
                    have KE := Lib.hid (fun (W' : World) (h : Below wq.heap.size wq W') => HKD.out W' (HQW.out.trans (h.mono HQW.out.size)))
                    have hq0 : Below wq.heap.size wq wq := Below.refl _ _
                    obtain ⟨x0, x1, x2, x3, x4, y0, y1, y2, y3, y4⟩ := KE.out wq hq0
                    have hlS : S1.length + S2.length = D.length := by rw [← HSS.out, List.length_append]
                    have hao : an ≤ on := by have := HJ.out; have := HAN.out; omega
                    have hao2 : (an : Int) ≤ (on : Int) := by omega
                    have hac2 : (an : Int) ≤ (c5 : Int) := by omega
                    have hac : an ≤ c5 := by omega
                    have hl1 : (flatP S1).length = an * 5 := by rw [flatP_len]; have := HAN.out; omega
                    have hl3 : (flatP S2).length = (on - an) * 5 := by rw [flatP_len]; have := HAN.out; have := HJ.out; omega
                    have HL1 := Lib.hid hl1
                    have HL3 := Lib.hid hl3
                    skip
                    have E1 : Hid ((wq.alloc (.cells #[] 28)).drew.ownsRow wq.heap.size 28 5 (.slice (some ⟨wq.heap.size, 0, none⟩) 0 0) 0 []) := Lib.hid (own_empty wq 28 5)
                    have E2 : Hid (((wq.alloc (.cells #[] 28)).alloc (.cells (PEnt.cells x).toArray 28)).drew.ownsRow wq.heap.size 28 5 (.slice (some ⟨wq.heap.size, 0, none⟩) 0 0) 0 []) := Lib.hid ((own_empty wq 28 5).alloc _)
                    have E3 : Hid (((wq.alloc (.cells (PEnt.cells x).toArray 28)).alloc (.cells #[] 28)).drew.ownsRow wq.heap.size 28 5 (.slice (some ⟨wq.heap.size + 1, 0, none⟩) 0 0) 0 []) := Lib.hid (by have h := own_empty' (w := wq.alloc (.cells (PEnt.cells x).toArray 28)) (base := wq.heap.size) 28 5 (by simp); have h2 : (wq.alloc (.cells (PEnt.cells x).toArray 28)).heap.size = wq.heap.size + 1 := (by simp); rw [h2] at h; exact h)
                    have B1 : Hid (Below wq.heap.size wq (wq.alloc (.cells #[] 28)).drew) := Lib.hid (hq0.alloc (Nat.le_refl _) _).drew
                    have B1' : Hid (Below wq.heap.size wq (wq.alloc (.cells (PEnt.cells x).toArray 28)).drew) := Lib.hid (hq0.alloc (Nat.le_refl _) _).drew
                    have B2 : Hid (Below wq.heap.size wq ((wq.alloc (.cells #[] 28)).alloc (.cells (PEnt.cells x).toArray 28)).drew) := Lib.hid ((hq0.alloc (Nat.le_refl _) _).alloc (by simp) _).drew
                    have B3 : Hid (Below wq.heap.size wq ((wq.alloc (.cells (PEnt.cells x).toArray 28)).alloc (.cells #[] 28)).drew) := Lib.hid ((hq0.alloc (Nat.le_refl _) _).alloc (by simp) _).drew
                    clear hlS hl1 hl3
                    go_region_held3 (fun W' => W'.cell? ⟨gK, jn * 5, none⟩ = some (.int .i64 x.1.1.k) ∧ W'.cell? ⟨gK, jn * 5 + 1, none⟩ = some (.int .i64 x.1.1.n) ∧ W'.cell? ⟨gK, jn * 5 + 2, none⟩ = some (.int .i64 x.1.1.e) ∧ W'.cell? ⟨gK, jn * 5 + 3, none⟩ = some (.string x.1.1.s) ∧ W'.cell? ⟨gK, jn * 5 + 4, none⟩ = some (.slice x.1.2.1 x.1.1.kids.length x.1.2.2) ∧ W'.cell? ⟨gK, (jn + 1) * 5, none⟩ = some (.int .i64 x.2.1.k) ∧ W'.cell? ⟨gK, (jn + 1) * 5 + 1, none⟩ = some (.int .i64 x.2.1.n) ∧ W'.cell? ⟨gK, (jn + 1) * 5 + 2, none⟩ = some (.int .i64 x.2.1.e) ∧ W'.cell? ⟨gK, (jn + 1) * 5 + 3, none⟩ = some (.string x.2.1.s) ∧ W'.cell? ⟨gK, (jn + 1) * 5 + 4, none⟩ = some (.slice x.2.2.1 x.2.1.kids.length x.2.2.2))
                      (first | exact KE.out _ hb3 | exact KE.out _ hb2 | exact KE.out _ (hb1.alloc hb1.size _) | exact KE.out _ hb1 | exact KE.out _ B1.out | exact KE.out _ B1'.out | exact KE.out _ B2.out | exact KE.out _ B3.out | exact KE.out _ hq0.drew | exact KE.out _ hq0)
                      (first
                        | (refine step_app2 rfl (.tmp 54) (.tmp 57) 26 rfl wq.heap.size 28 Tryd.underlying26 infoV rfl (by decide) rfl E1.out (by simp; try omega) _ an _ (flatP S1) rfl HL1.out (HN1.out _ B1.out) (flatP_ones S1) (by unfold maxLen; omega) (by omega) ?_; intro v1 w1 hownw1 hgrw1; have hb1 := Below.grown B1.out hgrw1 (by simp) (fun k hk => (E1.out.lt k hk).1); have hpc := True.intro)
                        | (refine step_app2 rfl (.tmp 54) (.tmp 57) 26 rfl wq.heap.size 28 Tryd.underlying26 infoV rfl (by decide) rfl E2.out (by simp; try omega) _ an _ (flatP S1) rfl HL1.out (HN1.out _ B2.out) (flatP_ones S1) (by unfold maxLen; omega) (by omega) ?_; intro v1 w1 hownw1 hgrw1; have hb1 := Below.grown B2.out hgrw1 (by simp; omega) (fun k hk => (E2.out.lt k hk).1); have hpc := pc_kept2 x hgrw1)
                        | (refine step_app2 rfl (.tmp 54) (.tmp 57) 26 rfl wq.heap.size 28 Tryd.underlying26 infoV rfl (by decide) rfl E3.out (by simp; try omega) _ an _ (flatP S1) rfl HL1.out (HN1.out _ B3.out) (flatP_ones S1) (by unfold maxLen; omega) (by omega) ?_; intro v1 w1 hownw1 hgrw1; have hb1 := Below.grown B3.out hgrw1 (by simp; omega) (fun k hk => (E3.out.lt k hk).1); have hpc := pc_kept3 x hgrw1)
                        | (refine step_app2 rfl (.tmp 58) (.tmp 68) 26 rfl wq.heap.size 28 Tryd.underlying26 infoV rfl (by decide) rfl (hownw1.alloc _) (Nat.le_trans hb1.size (by simp)) _ 2 _ (PEnt.cells x) rfl rfl (cells_new w1 (PEnt.cells x).toArray 28) (pent_ones x) (by unfold maxLen; omega) (by omega) ?_; intro v2 w2 hownw2 hgrw2; have hb2 := Below.grown (hb1.alloc hb1.size _) hgrw2 (Nat.le_trans hb1.size (by simp)) (fun k hk => (hownw1.lt k hk).1))
                        | (refine step_app2 rfl (.tmp 58) (.tmp 68) 26 rfl wq.heap.size 28 Tryd.underlying26 infoV rfl (by decide) rfl hownw1 hb1.size _ 2 _ (PEnt.cells x) rfl rfl hpc (pent_ones x) (by unfold maxLen; omega) (by omega) ?_; intro v2 w2 hownw2 hgrw2; have hb2 := Below.grown hb1 hgrw2 hb1.size (fun k hk => (hownw1.lt k hk).1))
                        | (refine step_app2 rfl (.tmp 69) (.tmp 72) 26 rfl wq.heap.size 28 Tryd.underlying26 infoV rfl (by decide) rfl hownw2 hb2.size _ (on - an) _ (flatP S2) rfl HL3.out (HN3.out _ hb2) (flatP_ones S2) (by unfold maxLen; omega) (by omega) ?_; intro v3 w3 hownw3 hgrw3; have hb3 := Below.grown hb2 hgrw3 hb2.size (fun k hk => (hownw2.lt k hk).1)))
                    all_goals
                      clear x0 x1 x2 x3 x4 y0 y1 y2 y3 y4 hpc hownw1 hownw2 hgrw1 hgrw2 hgrw3 hb1 hb2 hce hac hac2 hao2 hq0 E1 E2 E3 B1 B1' B2 B3 HN1 HN3 HOq KE
                      go_wp2_with fail
                      go_roundw
                      case rel => exact StRel.next HJ.out hj1 hes9 HPM.out HSO.out HX.out HSS.out HS2.out HLE.out (by have := HJ.out; omega) hownw3 (by simp [flatP_app, flatP_cons]) HQW.out hb3
                      case measure => simp [intOf]; omega
          · have hge : (es.length : Int) ≤ (jn : Int) := by omega
            have HDP : Hid (D.Perm (pairsL es)) := Lib.hid (by
              have h := HPM.out
              rwa [show m = (pairsL es).length by rw [pairsL_len]; have := HJ.out; have := HEV.out; omega, List.take_length] at h)
            have HBr0 := Lib.hid (HB0.out.below HT.out (by have := HS.out; omega))
            have HBr1 := Lib.hid (HB1.out.below HT.out (by have := HS.out; omega))
            obtain ⟨b0, b1, b2, b3, b4⟩ := HBr0.out.five
            have f4 := HBr0.out.frozen 4
            obtain ⟨p0, p1, p2, p3, p4⟩ := HBr1.out.five
            have k0 := HBr1.out.frozen 0
            have k1 := HBr1.out.frozen 1
            have k2 := HBr1.out.frozen 2
            have k3 := HBr1.out.frozen 3
            have k4 := HBr1.out.frozen 4
            have hz0 : w.heap.size + 2 ≤ wr.heap.size := by have := HS.out; have := HTS.out; omega
            go_wp2_with fail
            have G1 := Gr.set w.heap.size wr 4 (.slice (some ⟨g5, 0, none⟩) on c5)
            have HB18 := Lib.hid ((G1.block _ HBr1.out.lt (fun e => by injection e with e; omega)).trans HBr1.out)
            have HO8 := Lib.hid (World.ownsRow.kept HO.out G1 (.inr (fun e => by have := (HO.out.lt _ e).1; have := HS.out; omega)))
            have hS := HS.out
            have hTS := HTS.out
            have HT8 := Lib.hid (show SameIn G W (wr.setCell ⟨w.heap.size, 4, none⟩ (.slice (some ⟨g5, 0, none⟩) on c5)) from ⟨by simp; omega, fun c hc => by
              have h1 := HR.out.low c hc
              have h2 := HR.out.lt c hc
              exact (G1.block c (by omega) (fun e => by injection e with e; omega)).trans (HT.out.block c h2)⟩)
            have HW8 := Lib.hid ((HW.out.trans (HT.out.mono HW.out.size)).grown G1 (by omega) (fun k hk => by injection hk with hk; omega))
            have hz8 : W.heap.size ≤ (wr.setCell ⟨w.heap.size, 4, none⟩ (.slice (some ⟨g5, 0, none⟩) on c5)).heap.size := by simp; omega
            generalize wr.setCell ⟨w.heap.size, 4, none⟩ (.slice (some ⟨g5, 0, none⟩) on c5) = w8 at HB18 HO8 HT8 HW8 hz8 ⊢
            clear G1 f4 p0 p1 p2 p3 p4 k0 k1 k2 k3 k4 b0 b1 b2 b3 b4
            have R : Blk (((((w8.setCell ⟨w.heap.size + 1, 0, none⟩ (.int .i64 v.k)).setCell ⟨w.heap.size + 1, 1, none⟩ (.int .i64 v.n)).setCell ⟨w.heap.size + 1, 2, none⟩ (.int .i64 v.e)).setCell ⟨w.heap.size + 1, 3, none⟩ (.string v.s)).setCell ⟨w.heap.size + 1, 4, none⟩ (.slice (some ⟨g5, 0, none⟩) on c5)) (w.heap.size + 1) 28 #[.int .i64 v.k, .int .i64 v.n, .int .i64 v.e, .string v.s, .slice (some ⟨g5, 0, none⟩) on c5] := by
              have h := (((((show Blk w8 (w.heap.size + 1) 28 #[.int .i64 0, .int .i64 0, .int .i64 0, .string ⟨#[]⟩, .slice none 0 0] from HB18.out).set 0 (.int .i64 v.k)).set 1 (.int .i64 v.n)).set 2 (.int .i64 v.e)).set 3 (.string v.s)).set 4 (.slice (some ⟨g5, 0, none⟩) on c5)
              simpa using h
            have RG : Gr (w.heap.size + 1) w8 (((((w8.setCell ⟨w.heap.size + 1, 0, none⟩ (.int .i64 v.k)).setCell ⟨w.heap.size + 1, 1, none⟩ (.int .i64 v.n)).setCell ⟨w.heap.size + 1, 2, none⟩ (.int .i64 v.e)).setCell ⟨w.heap.size + 1, 3, none⟩ (.string v.s)).setCell ⟨w.heap.size + 1, 4, none⟩ (.slice (some ⟨g5, 0, none⟩) on c5)) := by
              repeat (first | exact Gr.refl _ _ | (refine Gr.trans ?_ (Gr.set _ _ _ _)))
            generalize ((((w8.setCell ⟨w.heap.size + 1, 0, none⟩ (.int .i64 v.k)).setCell ⟨w.heap.size + 1, 1, none⟩ (.int .i64 v.n)).setCell ⟨w.heap.size + 1, 2, none⟩ (.int .i64 v.e)).setCell ⟨w.heap.size + 1, 3, none⟩ (.string v.s)).setCell ⟨w.heap.size + 1, 4, none⟩ (.slice (some ⟨g5, 0, none⟩) on c5) = w9 at R RG ⊢
            obtain ⟨c0, c1, c2, c3, c4⟩ := R.five
            refine bodyPost_ret (v := .agg #[.int .i64 v.k, .int .i64 v.n, .int .i64 v.e, .string v.s, .slice (some ⟨g5, 0, none⟩) on c5]) (by simp [results, Tryd.results46, go_sem, c0, c1, c2, c3, c4]) rfl (ss_map HMF.out H8.out HE2.out HR.out hS HDP.out HSO.out (by have := HJ.out; omega) (fun c hc => ?_) (by have := RG.size; omega) (World.ownsRow.kept HO8.out RG (.inr (fun e => by have := (HO8.out.lt _ e).1; omega))) (HW8.out.grown RG (by omega) (fun k hk => by injection hk with hk; omega)))
            have h1 := HR.out.low c hc
            have h2 := HR.out.lt c hc
            exact (RG.block c (by omega) (fun e => by injection e with e; omega)).trans (HT8.out.2 c hc)
      · have he8 : (v.k == 8) = false := by simpa using h8
        have H8 := Lib.hid h8
        clear h8
        have f4 := HB0.out.frozen 4
        obtain ⟨p0, p1, p2, p3, p4⟩ := HB1.out.five
        have k0 := HB1.out.frozen 0
        have k1 := HB1.out.frozen 1
        have k2 := HB1.out.frozen 2
        have k3 := HB1.out.frozen 3
        have k4 := HB1.out.frozen 4
        go_wp2_with fail
        have G1 := Gr.set w.heap.size wr 4 (.slice AK es.length cK)
        have HB18 := Lib.hid ((G1.block _ HB1.out.lt (fun e => by injection e with e; omega)).trans HB1.out)
        have HR8 := Lib.hid (HR.out.gr G1 (by omega))
        have HW8 := Lib.hid (HW.out.grown G1 (by have := HS.out; omega) (fun k hk => by injection hk with hk; omega))
        have hz8 : w.heap.size + 2 ≤ (wr.setCell ⟨w.heap.size, 4, none⟩ (.slice AK es.length cK)).heap.size := by have := HS.out; simp; omega
        generalize wr.setCell ⟨w.heap.size, 4, none⟩ (.slice AK es.length cK) = w8 at HB18 HR8 HW8 hz8 ⊢
        clear G1 f4 p0 p1 p2 p3 p4 k0 k1 k2 k3 k4 b0 b1 b2 b3 b4 a0
        have R : Blk (((((w8.setCell ⟨w.heap.size + 1, 0, none⟩ (.int .i64 v.k)).setCell ⟨w.heap.size + 1, 1, none⟩ (.int .i64 v.n)).setCell ⟨w.heap.size + 1, 2, none⟩ (.int .i64 v.e)).setCell ⟨w.heap.size + 1, 3, none⟩ (.string v.s)).setCell ⟨w.heap.size + 1, 4, none⟩ (.slice AK es.length cK)) (w.heap.size + 1) 28 #[.int .i64 v.k, .int .i64 v.n, .int .i64 v.e, .string v.s, .slice AK es.length cK] := by
          have h := (((((show Blk w8 (w.heap.size + 1) 28 #[.int .i64 0, .int .i64 0, .int .i64 0, .string ⟨#[]⟩, .slice none 0 0] from HB18.out).set 0 (.int .i64 v.k)).set 1 (.int .i64 v.n)).set 2 (.int .i64 v.e)).set 3 (.string v.s)).set 4 (.slice AK es.length cK)
          simpa using h
        have RG : Gr (w.heap.size + 1) w8 (((((w8.setCell ⟨w.heap.size + 1, 0, none⟩ (.int .i64 v.k)).setCell ⟨w.heap.size + 1, 1, none⟩ (.int .i64 v.n)).setCell ⟨w.heap.size + 1, 2, none⟩ (.int .i64 v.e)).setCell ⟨w.heap.size + 1, 3, none⟩ (.string v.s)).setCell ⟨w.heap.size + 1, 4, none⟩ (.slice AK es.length cK)) := by
          repeat (first | exact Gr.refl _ _ | (refine Gr.trans ?_ (Gr.set _ _ _ _)))
        generalize ((((w8.setCell ⟨w.heap.size + 1, 0, none⟩ (.int .i64 v.k)).setCell ⟨w.heap.size + 1, 1, none⟩ (.int .i64 v.n)).setCell ⟨w.heap.size + 1, 2, none⟩ (.int .i64 v.e)).setCell ⟨w.heap.size + 1, 3, none⟩ (.string v.s)).setCell ⟨w.heap.size + 1, 4, none⟩ (.slice AK es.length cK) = w9 at R RG ⊢
        obtain ⟨c0, c1, c2, c3, c4⟩ := R.five
        refine bodyPost_ret (v := .agg #[.int .i64 v.k, .int .i64 v.n, .int .i64 v.e, .string v.s, .slice AK es.length cK]) (by simp [results, Tryd.results46, go_sem, c0, c1, c2, c3, c4]) rfl (sr_end (by rw [V.srt_eq, if_neg H8.out, HE2.out]) (HR8.out.gr RG (by omega)) (by omega) (HW8.out.grown RG (by omega) (fun k hk => by injection hk with hk; omega)))
theorem specSort0 : ∀ v, SrtSaidS v := V.all srtS_step
end Go.Proofs.YtcjamnfboifjeaaDoor

/-
  The program's tests of a value: a decimal number, a value but for its kids.
-/
namespace Go.Proofs.YtcjamnfboifjeaaDoor
open Go.RowKit
set_option linter.unusedVariables false
set_option maxRecDepth 100000

theorem tens_stepJ (n : Int) (k : Nat) (h : inR (n * 10)) : tens n (k + 1) = tens (n * 10) k := by
  conv => lhs; unfold tens
  rw [if_pos h]
theorem tens_stopJ (n : Int) (k : Nat) (h : ¬ inR (n * 10)) : tens n (k + 1) = none := by
  unfold tens
  rw [if_neg h]
theorem tup2f {a a' : Int} {b b' : Bool} (h1 : a = a') (h2 : b = b') : Ending.returned (.tuple #[.int .i64 a, .bool b]) = Ending.returned (.tuple #[.int .i64 a', .bool b']) := by rw [h1, h2]

set_option maxHeartbeats 1000000 in
theorem implFits (n : Int) (m : Nat) (w : World) (hn : inR n) (hm2 : m ≤ 1020) :
    Calls Tryd.prog 106 #[.int .i64 n, .int .i64 (m : Int)] w fun e w' => e = .returned (.tuple #[.int .i64 ((tens n m).getD 0), .bool (tens n m).isSome]) ∧ w = w' := by
  go_enter Tryd.func106, Tryd.ntmps106
  go_wp2_with fail
  go_loop [0, 1] (fun z i => ∃ (j : Nat) (x : Int), j ≤ m ∧ i = .int .i64 j ∧ z = .int .i64 x ∧ inR x ∧ tens n m = tens x j) (fun _ i => (intOf i).toNat)
  case atStart => exact ⟨m, n, by omega, rfl, rfl, hn, rfl⟩
  case round =>
    obtain ⟨j, x, hj, rfl, rfl, hx, ht⟩ := hrel
    have hr := hx
    unfold inR at hr
    by_cases hj0 : j = 0
    · subst hj0
      have HT : Hid (tens n m = some x) := Lib.hid ht
      clear ht hx
      go_wp2_with fail
      go_ret2
      exact ⟨tup2f (by rw [HT.out]; rfl) (by rw [HT.out]; rfl), rfl⟩
    by_cases hx0 : x = 0
    · subst hx0
      have HT : Hid (tens n m = some 0) := Lib.hid (ht.trans (tens_zero _))
      have hjp : 0 < j := by omega
      clear ht hx hj0
      go_wp2_with fail
      go_ret2
      exact ⟨tup2f (by rw [HT.out]; rfl) (by rw [HT.out]; rfl), rfl⟩
    · have hj1 : 0 < j := by omega
      have hx1 : (x != 0) = true := by simp; omega
      obtain ⟨k, rfl⟩ : ∃ k, j = k + 1 := ⟨j - 1, by omega⟩
      clear hj0 hx0
      by_cases h10 : inR (x * 10)
      · have HT := Lib.hid (ht.trans (tens_stepJ x k h10))
        have H10 := Lib.hid h10
        have hin := h10
        unfold inR at hin
        have c1 : decide (x > 922337203685477580) = false := decide_eq_false (by omega)
        have c2 : decide (x < -922337203685477580) = false := decide_eq_false (by omega)
        clear ht hx h10
        go_wp2_with fail
        go_round
        case rel => exact ⟨k, x * 10, by omega, by go_num, by go_num, H10.out, HT.out⟩
        case measure => simp [intOf]
      · have HT := Lib.hid (ht.trans (tens_stopJ x k h10))
        have hout : 922337203685477580 < x ∨ x < -922337203685477580 := by unfold inR at h10; omega
        rcases (show decide ((922337203685477580 : Int) < x) = true ∨ (decide ((922337203685477580 : Int) < x) = false ∧ decide (x < -922337203685477580) = true) by
          by_cases h : (922337203685477580 : Int) < x
          · left; exact decide_eq_true h
          · right; exact ⟨decide_eq_false h, decide_eq_true (by omega)⟩) with hc | hc
        all_goals
          clear ht hx h10 hout
          go_wp2_with fail
          go_ret2
          exact ⟨tup2f (by rw [HT.out]; rfl) (by rw [HT.out]; rfl), rfl⟩

theorem implFitsI (n e : Int) (w : World) (hn : inR n) (h0 : 0 < e) (hm2 : e ≤ 1020) :
    Calls Tryd.prog 106 #[.int .i64 n, .int .i64 e] w fun r w' => r = .returned (.tuple #[.int .i64 ((tens n e.toNat).getD 0), .bool (tens n e.toNat).isSome]) ∧ w = w' := by
  obtain ⟨m, rfl⟩ := Int.eq_ofNat_of_zero_le (show 0 ≤ e by omega)
  exact implFits n m w hn (by omega)
theorem decOk_false {n e : Int} (h : ¬ decOk n e) : false = decide (decOk n e) := (decide_eq_false h).symm
theorem decOk_neg {n e : Int} (h1 : -20 ≤ e) (h2 : e ≤ 20) (h3 : ¬ e = 0) (h4 : -999999999999999999 ≤ n) (h5 : n ≤ 999999999999999999) (h6 : (n.tmod 10 == 0) = false) (h7 : e ≤ 0) : true = decide (decOk n e) :=
  (decide_eq_true ⟨h1, h2, h3, h4, h5, by simpa using h6, fun h => by omega⟩).symm
theorem decOk_pos {n e : Int} (h1 : -20 ≤ e) (h2 : e ≤ 20) (h3 : ¬ e = 0) (h4 : -999999999999999999 ≤ n) (h5 : n ≤ 999999999999999999) (h6 : (n.tmod 10 == 0) = false) (h7 : 0 < e) : (tens n e.toNat).isNone = decide (decOk n e) := by
  rw [Bool.eq_iff_iff, decide_eq_true_iff]
  have h6' : Int.tmod n 10 ≠ 0 := by simpa using h6
  unfold decOk
  cases ht : tens n e.toNat with
  | none => simp [*]
  | some x => simp [*]

set_option maxHeartbeats 4000000 in
theorem implIsDec (v : V) (A : Option Addr) (cap : Nat) (w : World) :
    Calls Tryd.prog 95 #[v.agg A cap] w fun e w' => e = .returned (.bool (decide (decOk v.n v.e))) ∧ Below w.heap.size w w' := by
  unfold V.agg
  go_enter Tryd.func95, Tryd.ntmps95
  go_wp2_with (first | (go_at_call 97; go_in) | (go_at_call 106; refine (implFitsI v.n v.e _ (by unfold inR; omega) (by omega) (by omega)).mono ?_; rintro r w1 ⟨rfl, rfl⟩))
  all_goals go_ret
  all_goals refine ⟨ret_bool ?_, (Below.refl _ _).alloc (Nat.le_refl _) _⟩
  all_goals first
    | (refine decOk_false (fun h => ?_); obtain ⟨q1, q2, q3, q4, q5, q6, q7⟩ := h; first | omega | (simp_all; done))
    | exact decOk_neg (by omega) (by omega) (by omega) (by omega) (by omega) (by simp_all) (by omega)
    | exact decOk_pos (by omega) (by omega) (by omega) (by omega) (by omega) (by simp_all) (by omega)
end Go.Proofs.YtcjamnfboifjeaaDoor

/-
  PutSign: the bytes of a code point.
-/
namespace Go.Proofs.YtcjamnfboifjeaaDoor
open Go.RowKit
set_option linter.unusedVariables false

set_option maxHeartbeats 1000000 in
set_option maxRecDepth 100000 in
theorem specPutSign_1 (n : Nat) (w : World) (h : n < 128) :
    Calls Tryd.prog 114 #[.int .i64 n] w fun e w' => e = .returned (.string (Utf8.encode n)) ∧ Below w.heap.size w w' := by
  have hd0 : decide ((n : Int) ≤ 1114111) = true := by simp; omega
  have hd1 : decide (55296 ≤ (n : Int)) = false := by simp; omega
  have hd2 : decide ((n : Int) < 128) = true := by simp; omega
  have hl := lit1 (P := Tryd.prog) 34 9 5 Tryd.underlying34 Tryd.underlying5 Tryd.underlying9
  go_enter Tryd.func114, Tryd.ntmps114
  go_wp2_with go_in
  go_ret
  exact ⟨ret_eq (congrArg Value.string (enc1 n (by omega))), (Below.refl _ _).alloc (Nat.le_refl _) _⟩

set_option maxHeartbeats 1000000 in
set_option maxRecDepth 100000 in
theorem specPutSign_2 (n : Nat) (w : World) (h : 128 ≤ n ∧ n < 2048) :
    Calls Tryd.prog 114 #[.int .i64 n] w fun e w' => e = .returned (.string (Utf8.encode n)) ∧ Below w.heap.size w w' := by
  have hd0 : decide ((n : Int) ≤ 1114111) = true := by simp; omega
  have hd1 : decide (55296 ≤ (n : Int)) = false := by simp; omega
  have hd2 : decide ((n : Int) < 128) = false := by simp; omega
  have hd3 : decide ((n : Int) < 2048) = true := by simp; omega
  have hd4 : bits .and .i64 (n : Int) 63 = ((n % 64 : Nat) : Int) := and63 n (by omega)
  have hl := lit2 (P := Tryd.prog) 34 9 5 Tryd.underlying34 Tryd.underlying5 Tryd.underlying9
  go_enter Tryd.func114, Tryd.ntmps114
  go_wp2_with go_in
  go_ret
  exact ⟨ret_eq (congrArg Value.string (enc2 n (by omega))), (Below.refl _ _).alloc (Nat.le_refl _) _⟩

set_option maxHeartbeats 1000000 in
set_option maxRecDepth 100000 in
theorem specPutSign_3 (n : Nat) (w : World) (h : 2048 ≤ n ∧ n < 55296) :
    Calls Tryd.prog 114 #[.int .i64 n] w fun e w' => e = .returned (.string (Utf8.encode n)) ∧ Below w.heap.size w w' := by
  have hd0 : decide ((n : Int) ≤ 1114111) = true := by simp; omega
  have hd1 : decide (55296 ≤ (n : Int)) = false := by simp; omega
  have hd2 : decide ((n : Int) < 128) = false := by simp; omega
  have hd3 : decide ((n : Int) < 2048) = false := by simp; omega
  have hd4 : decide ((n : Int) < 65536) = true := by simp; omega
  have hd5 : bits .and .i64 (n : Int) 63 = ((n % 64 : Nat) : Int) := and63 n (by omega)
  have hd6 : bits .and .i64 ((n : Int) / 64) 63 = ((n / 64 % 64 : Nat) : Int) := and63d n 64 (by omega)
  have hl := lit3 (P := Tryd.prog) 34 9 5 Tryd.underlying34 Tryd.underlying5 Tryd.underlying9
  go_enter Tryd.func114, Tryd.ntmps114
  go_wp2_with go_in
  go_ret
  exact ⟨ret_eq (congrArg Value.string (enc3 n (by omega))), (Below.refl _ _).alloc (Nat.le_refl _) _⟩

set_option maxHeartbeats 1000000 in
set_option maxRecDepth 100000 in
theorem specPutSign_4 (n : Nat) (w : World) (h : 57343 < n ∧ n < 65536) :
    Calls Tryd.prog 114 #[.int .i64 n] w fun e w' => e = .returned (.string (Utf8.encode n)) ∧ Below w.heap.size w w' := by
  have hd0 : decide ((n : Int) ≤ 1114111) = true := by simp; omega
  have hd1 : decide (55296 ≤ (n : Int)) = true := by simp; omega
  have hd2 : decide ((n : Int) ≤ 57343) = false := by simp; omega
  have hd3 : decide ((n : Int) < 128) = false := by simp; omega
  have hd4 : decide ((n : Int) < 2048) = false := by simp; omega
  have hd5 : decide ((n : Int) < 65536) = true := by simp; omega
  have hd6 : bits .and .i64 (n : Int) 63 = ((n % 64 : Nat) : Int) := and63 n (by omega)
  have hd7 : bits .and .i64 ((n : Int) / 64) 63 = ((n / 64 % 64 : Nat) : Int) := and63d n 64 (by omega)
  have hl := lit3 (P := Tryd.prog) 34 9 5 Tryd.underlying34 Tryd.underlying5 Tryd.underlying9
  go_enter Tryd.func114, Tryd.ntmps114
  go_wp2_with go_in
  go_ret
  exact ⟨ret_eq (congrArg Value.string (enc3 n (by omega))), (Below.refl _ _).alloc (Nat.le_refl _) _⟩

set_option maxHeartbeats 1000000 in
set_option maxRecDepth 100000 in
theorem specPutSign_5 (n : Nat) (w : World) (h : 65536 ≤ n ∧ n < 1114112) :
    Calls Tryd.prog 114 #[.int .i64 n] w fun e w' => e = .returned (.string (Utf8.encode n)) ∧ Below w.heap.size w w' := by
  have hd0 : decide ((n : Int) ≤ 1114111) = true := by simp; omega
  have hd1 : decide (55296 ≤ (n : Int)) = true := by simp; omega
  have hd2 : decide ((n : Int) ≤ 57343) = false := by simp; omega
  have hd3 : decide ((n : Int) < 128) = false := by simp; omega
  have hd4 : decide ((n : Int) < 2048) = false := by simp; omega
  have hd5 : decide ((n : Int) < 65536) = false := by simp; omega
  have hd6 : bits .and .i64 (n : Int) 63 = ((n % 64 : Nat) : Int) := and63 n (by omega)
  have hd7 : bits .and .i64 ((n : Int) / 64) 63 = ((n / 64 % 64 : Nat) : Int) := and63d n 64 (by omega)
  have hd8 : bits .and .i64 ((n : Int) / 4096) 63 = ((n / 4096 % 64 : Nat) : Int) := and63d n 4096 (by omega)
  have hl := lit4 (P := Tryd.prog) 34 9 5 Tryd.underlying34 Tryd.underlying5 Tryd.underlying9
  go_enter Tryd.func114, Tryd.ntmps114
  go_wp2_with go_in
  go_ret
  exact ⟨ret_eq (congrArg Value.string (enc4 n (by omega))), (Below.refl _ _).alloc (Nat.le_refl _) _⟩

theorem specPutSign (n : Int) (w : World) (h0 : -9223372036854775808 ≤ n ∧ n ≤ 9223372036854775807) :
    Calls Tryd.prog 114 #[.int .i64 n] w fun e w' => e = .returned (.string (signB n)) ∧ Below w.heap.size w w' := by
  by_cases h : (0 ≤ n ∧ n < 55296) ∨ (57343 < n ∧ n ≤ 1114111)
  · have hs : signB n = Utf8.encode n := by unfold signB isSg; rw [if_pos (by simp; omega)]
    rw [hs]
    obtain ⟨n, rfl⟩ := Int.eq_ofNat_of_zero_le (show 0 ≤ n by omega)
    rcases (show n < 128 ∨ (128 ≤ n ∧ n < 2048) ∨ (2048 ≤ n ∧ n < 55296) ∨ (57343 < n ∧ n < 65536) ∨ (65536 ≤ n ∧ n < 1114112) by omega) with hc | hc | hc | hc | hc
    · exact specPutSign_1 n w hc
    · exact specPutSign_2 n w hc
    · exact specPutSign_3 n w hc
    · exact specPutSign_4 n w hc
    · exact specPutSign_5 n w hc
  · have hs : signB n = ⟨#[]⟩ := by unfold signB isSg; rw [if_neg (by simp; omega)]
    rw [hs]
    clear hs
    rcases (show n < 0 ∨ 1114111 < n ∨ (55296 ≤ n ∧ n ≤ 57343) by omega) with hc | hc | hc
    · clear h
      go_enter Tryd.func114, Tryd.ntmps114
      go_wp2_with go_in
      go_ret
      exact ⟨rfl, Below.refl _ _⟩
    · clear h
      have hd : decide (n ≤ 1114111) = false := by simp; omega
      go_enter Tryd.func114, Tryd.ntmps114
      go_wp2_with go_in
      go_ret
      exact ⟨rfl, Below.refl _ _⟩
    · clear h
      have hd : decide (n ≤ 1114111) = true := by simp; omega
      have hd2 : decide (n ≤ 57343) = true := by simp; omega
      go_enter Tryd.func114, Tryd.ntmps114
      go_wp2_with go_in
      go_ret
      exact ⟨rfl, Below.refl _ _⟩
end Go.Proofs.YtcjamnfboifjeaaDoor

/-
  GetSign of the reference: the sign at a place, as the model's own decoder reads it.
-/
namespace Go.Proofs.YtcjamnfboifjeaaDoor
open Go.RowKit
set_option linter.unusedVariables false

theorem and31 (n : Nat) (h : n < 9223372036854775808) : bits .and .i64 (n : Int) 31 = ((n % 32 : Nat) : Int) := by
  have h1 := ofInt_i64 n h
  have h2 := ofInt_i64 31 (by omega)
  show IntKind.i64.wrap ((BitVec.ofInt 64 (n : Int) &&& BitVec.ofInt 64 ((31 : Nat) : Int)).toNat : Int) = _
  rw [BitVec.toNat_and, h1, h2, Nat.and_two_pow_sub_one_eq_mod n 5, IntKind.wrap_i64]
  omega
theorem and15i (n : Nat) (h : n < 9223372036854775808) : bits .and .i64 (n : Int) 15 = ((n % 16 : Nat) : Int) := by
  have h1 := ofInt_i64 n h
  have h2 := ofInt_i64 15 (by omega)
  show IntKind.i64.wrap ((BitVec.ofInt 64 (n : Int) &&& BitVec.ofInt 64 ((15 : Nat) : Int)).toNat : Int) = _
  rw [BitVec.toNat_and, h1, h2, Nat.and_two_pow_sub_one_eq_mod n 4, IntKind.wrap_i64]
  omega
theorem and7i (n : Nat) (h : n < 9223372036854775808) : bits .and .i64 (n : Int) 7 = ((n % 8 : Nat) : Int) := by
  have h1 := ofInt_i64 n h
  have h2 := ofInt_i64 7 (by omega)
  show IntKind.i64.wrap ((BitVec.ofInt 64 (n : Int) &&& BitVec.ofInt 64 ((7 : Nat) : Int)).toNat : Int) = _
  rw [BitVec.toNat_and, h1, h2, Nat.and_two_pow_sub_one_eq_mod n 3, IntKind.wrap_i64]
  omega

set_option maxRecDepth 100000 in
theorem specMany (b : Nat) (hb : b < 256) (w : World) :
    Calls Tryd.prog 113 #[.int .i64 b] w fun e w' => e = .returned (.tuple #[.int .i64 (manyN b), .int .i64 (headN b)]) ∧ w = w' := by
  have e1 := and31 b (by omega)
  have e2 := and15i b (by omega)
  have e3 := and7i b (by omega)
  rcases (show b < 128 ∨ (128 ≤ b ∧ b < 192) ∨ (192 ≤ b ∧ b ≤ 223) ∨ (224 ≤ b ∧ b ≤ 239) ∨ (240 ≤ b ∧ b ≤ 247) ∨ (248 ≤ b) by omega) with h | h | h | h | h | h
  · have hm : manyN b = 1 ∧ headN b = b := by unfold manyN headN; rw [if_pos h, if_pos h]; exact ⟨rfl, rfl⟩
    rw [hm.1, hm.2]
    clear hm
    go_enter Tryd.func113, Tryd.ntmps113
    go_wp2_with go_in
    go_ret2
    exact ⟨rfl, rfl⟩
  · have hm : manyN b = 0 ∧ headN b = 0 := by
      unfold manyN headN
      rw [if_neg (by omega), if_neg (by omega), if_neg (by omega), if_neg (by omega), if_neg (by omega), if_neg (by omega), if_neg (by omega), if_neg (by omega)]; exact ⟨rfl, rfl⟩
    rw [hm.1, hm.2]
    clear hm
    go_enter Tryd.func113, Tryd.ntmps113
    go_wp2_with go_in
    go_ret2
    exact ⟨rfl, rfl⟩
  · have hm : manyN b = 2 ∧ headN b = b % 32 := by
      unfold manyN headN
      rw [if_neg (by omega), if_pos h, if_neg (by omega), if_pos h]; exact ⟨rfl, rfl⟩
    rw [hm.1, hm.2]
    clear hm
    go_enter Tryd.func113, Tryd.ntmps113
    go_wp2_with go_in
    go_ret2
    exact ⟨rfl, rfl⟩
  · have hm : manyN b = 3 ∧ headN b = b % 16 := by
      unfold manyN headN
      rw [if_neg (by omega), if_neg (by omega), if_pos h, if_neg (by omega), if_neg (by omega), if_pos h]; exact ⟨rfl, rfl⟩
    rw [hm.1, hm.2]
    clear hm
    go_enter Tryd.func113, Tryd.ntmps113
    go_wp2_with go_in
    go_ret2
    exact ⟨rfl, rfl⟩
  · have hm : manyN b = 4 ∧ headN b = b % 8 := by
      unfold manyN headN
      rw [if_neg (by omega), if_neg (by omega), if_neg (by omega), if_pos h, if_neg (by omega), if_neg (by omega), if_neg (by omega), if_pos h]; exact ⟨rfl, rfl⟩
    rw [hm.1, hm.2]
    clear hm
    go_enter Tryd.func113, Tryd.ntmps113
    go_wp2_with go_in
    go_ret2
    exact ⟨rfl, rfl⟩
  · have hm : manyN b = 0 ∧ headN b = 0 := by
      unfold manyN headN
      rw [if_neg (by omega), if_neg (by omega), if_neg (by omega), if_neg (by omega), if_neg (by omega), if_neg (by omega), if_neg (by omega), if_neg (by omega)]; exact ⟨rfl, rfl⟩
    rw [hm.1, hm.2]
    clear hm
    go_enter Tryd.func113, Tryd.ntmps113
    go_wp2_with go_in
    go_ret2
    exact ⟨rfl, rfl⟩

theorem gs_no {s : ByteArray} {i : Int} (h : ¬ gsOk s i) : gsN s i = -1 ∧ gsE s i = -1 := by
  unfold gsN gsE; rw [if_neg h, if_neg h]; exact ⟨rfl, rfl⟩
theorem gs_yes {s : ByteArray} {i : Int} (h : gsOk s i) : gsN s i = (Utf8.decode s i.toNat).1 ∧ gsE s i = i + (Utf8.decode s i.toNat).2 := by
  unfold gsN gsE; rw [if_pos h, if_pos h]; exact ⟨rfl, rfl⟩
theorem gs_yes' {s : ByteArray} {i : Nat} (h : gsOk s (i : Int)) : gsN s i = (Utf8.decode s i).1 ∧ gsE s i = (i : Int) + (Utf8.decode s i).2 := by
  have := gs_yes h
  rwa [Int.toNat_natCast] at this
theorem dec_w (s : ByteArray) (i : Nat) : (Utf8.decode s i).1 < 4294967296 ∧ 1 ≤ (Utf8.decode s i).2 ∧ (Utf8.decode s i).2 ≤ 4 := by
  rw [Lib.decode_at]
  have h0 := (s.get! i).toNat_lt
  have h1 := (s.get! (i + 1)).toNat_lt
  have h2 := (s.get! (i + 2)).toNat_lt
  have h3 := (s.get! (i + 3)).toNat_lt
  unfold Lib.decodeN
  repeat' split
  all_goals simp
  all_goals omega
theorem accN_step (s : ByteArray) (i k : Nat) (h : 1 ≤ k) (hk : i + k < s.size) : accN s i (k + 1 - 1) = accN s i (k - 1) * 64 + s[i + k].toNat % 64 := by
  obtain ⟨k, rfl⟩ : ∃ j, k = j + 1 := ⟨k - 1, by omega⟩
  rw [get_get! _ _ (by omega)]
  rfl
theorem tup2 {a a' b b' : Int} (h1 : a = a') (h2 : b = b') : Ending.returned (.tuple #[.int .i64 a, .int .i64 b]) = Ending.returned (.tuple #[.int .i64 a', .int .i64 b']) := by rw [h1, h2]

theorem sl2 (s : ByteArray) (i j : Nat) (h : i + j ≤ s.size) (hs : s.size ≤ 1048576) : (0 : Int) ≤ i ∧ (i : Int) ≤ (i : Int) + j ∧ (i : Int) + j ≤ s.size ∧ IntKind.i64.wrap ((i : Int) + j) = (i : Int) + j ∧ (0 : Int) ≤ (i : Int) + j ∧ ((i : Int) + j).toNat = i + j := by
  refine ⟨by omega, by omega, by omega, ?_, by omega, by omega⟩
  rw [IntKind.wrap_i64]; omega

set_option maxHeartbeats 1000000 in
theorem specGetSign (s : ByteArray) (i : Int) (w : World) (hs : s.size ≤ 1048576) (hi : -9223372036854775808 ≤ i ∧ i ≤ 9223372036854775807) :
    Calls Tryd.prog 111 #[.string s, .int .i64 i] w fun e w' => e = .returned (.tuple #[.int .i64 (gsN s i), .int .i64 (gsE s i)]) ∧ Below w.heap.size w w' := by
  by_cases hin : 0 ≤ i ∧ i < s.size
  · obtain ⟨h0, h1⟩ := hin
    obtain ⟨i, rfl⟩ := Int.eq_ofNat_of_zero_le h0
    have hlt : i < s.size := by omega
    have hu : s[i].toNat < 256 := UInt8.toNat_lt _
    have HG := Lib.hid (get_get! s i hlt)
    by_cases hno : manyN s[i].toNat = 0 ∨ s.size < i + manyN s[i].toNat
    · have HN := Lib.hid (gs_no (sgn_none s i (by rw [← HG.out]; exact hno)))
      rcases hno with hm | hm
      · have HM := Lib.hid hm
        clear hm
        go_enter Tryd.func111, Tryd.ntmps111
        go_wp2_with fail
        refine (specMany _ hu w).mono ?_
        rintro e w' ⟨rfl, rfl⟩
        rw [HM.out]
        go_wp2_with fail
        go_ret2
        exact ⟨tup2 HN.out.1.symm HN.out.2.symm, Below.refl _ _⟩
      · have hml := manyN_le s[i].toNat
        by_cases hm0 : manyN s[i].toNat = 0
        · have HM := Lib.hid hm0
          clear hm hm0
          go_enter Tryd.func111, Tryd.ntmps111
          go_wp2_with fail
          refine (specMany _ hu w).mono ?_
          rintro e w' ⟨rfl, rfl⟩
          rw [HM.out]
          go_wp2_with fail
          go_ret2
          exact ⟨tup2 HN.out.1.symm HN.out.2.symm, Below.refl _ _⟩
        · go_enter Tryd.func111, Tryd.ntmps111
          go_wp2_with fail
          refine (specMany _ hu w).mono ?_
          rintro e w' ⟨rfl, rfl⟩
          go_wp2_with fail
          all_goals go_ret2
          all_goals exact ⟨tup2 HN.out.1.symm HN.out.2.symm, Below.refl _ _⟩
    · obtain ⟨hm0, hmle⟩ : manyN s[i].toNat ≠ 0 ∧ i + manyN s[i].toNat ≤ s.size := by omega
      have hml := manyN_le s[i].toNat
      have HS := Lib.hid (sgn_some s i (manyN s[i].toNat) (by rw [HG.out]) (by omega) hmle)
      have HH := Lib.hid (show headN s[i].toNat = accN s i (1 - 1) by rw [HG.out]; rfl)
      clear hno
      go_enter Tryd.func111, Tryd.ntmps111
      go_wp2_with fail
      refine (specMany _ hu w).mono ?_
      rintro e w' ⟨rfl, rfl⟩
      rw [HH.out]
      generalize manyN s[i].toNat = m at *
      have hmz : ((m : Int) == 0) = false := by simp; omega
      have hm1 : 1 ≤ m := by omega
      clear hm0
      go_wp2_with fail
      go_loop [7, 8] (fun n k => ∃ j : Nat, 1 ≤ j ∧ j ≤ m ∧ k = .int .i64 j ∧ n = .int .i64 (accN s i (j - 1))) (fun _ k => m - (intOf k).toNat)
      case atStart => exact ⟨1, by omega, by omega, rfl, rfl⟩
      case round =>
        obtain ⟨j, hj1, hj, rfl, rfl⟩ := hrel
        have ha := accN_lt s i (j - 1) (by omega)
        by_cases hlt2 : j < m
        · have HST := Lib.hid (accN_step s i j hj1 (by omega))
          have hu2 : s[i + j].toNat < 256 := UInt8.toNat_lt _
          have hx := and63 s[i + j].toNat (by omega)
          generalize accN s i (j - 1) = a at *
          go_wp2_with fail
          go_round
          case rel => exact ⟨j + 1, by omega, by omega, by go_num, by rw [HST.out]; go_num⟩
          case measure => simp [intOf]; omega
        · obtain rfl : j = m := by omega
          have hcmp := sg_cmp s i j (accN s i (j - 1)) hmle
          have HC := Lib.hid hcmp
          clear hcmp
          generalize accN s i (j - 1) = a at *
          have HK : Hid (((signB (a : Int)).toList == (s.extract i (i + j)).toList) = decide (gsOk s (i : Int))) := by
            rw [Bool.eq_iff_iff, decide_eq_true_iff, HS.out.1, ← HC.out, beq_iff_eq, ByteArray.toList_eq, ByteArray.toList_eq]
            exact ⟨fun h => ba_ext h, fun h => by rw [h]⟩
          go_wp2_with fail
          obtain ⟨q1, q2, q3, q4, q5, q6⟩ := sl2 s i j hmle hs
          go_region_held3 (fun _ => True) (exact trivial) (first | (go_at_call 114; refine (specPutSign _ _ ⟨by omega, by omega⟩).mono ?_; rintro e w2 ⟨rfl, hb2⟩))
          by_cases hok : gsOk s (i : Int)
          · have ht : ((signB (a : Int)).toList == (s.extract i (i + j)).toList) = true := by rw [HK.out]; exact decide_eq_true hok
            have HY := Lib.hid (gs_yes hok)
            have HD := Lib.hid (HS.out.2 hok)
            clear q1 q2 q3 q4 q5 q6
            go_wp2_with fail
            all_goals go_ret2
            all_goals first
              | (have hx : (!(signB (a : Int)).toList == (s.extract i (i + j)).toList) = true := by assumption
                 rw [ht] at hx; cases hx)
              | exact ⟨tup2 (by rw [HY.out.1, Int.toNat_natCast, HD.out]) (by rw [HY.out.2, Int.toNat_natCast, HD.out]), (Below.refl _ _).drew.trans hb2⟩
          · have ht : ((signB (a : Int)).toList == (s.extract i (i + j)).toList) = false := by rw [HK.out]; exact decide_eq_false hok
            have HN := Lib.hid (gs_no hok)
            clear q1 q2 q3 q4 q5 q6
            go_wp2_with fail
            all_goals go_ret2
            all_goals first
              | (have hx : (!(signB (a : Int)).toList == (s.extract i (i + j)).toList) = false := by assumption
                 rw [ht] at hx; cases hx)
              | exact ⟨tup2 HN.out.1.symm HN.out.2.symm, (Below.refl _ _).drew.trans hb2⟩
  · have HN := Lib.hid (gs_no (s := s) (i := i) (fun h => hin ⟨h.1, h.2.1⟩))
    go_enter Tryd.func111, Tryd.ntmps111
    by_cases h0 : i < 0
    · clear hin
      go_wp2_with fail
      go_ret2
      exact ⟨tup2 HN.out.1.symm HN.out.2.symm, Below.refl _ _⟩
    · have h1 : (s.size : Int) ≤ i := by omega
      clear hin
      go_wp2_with fail
      go_ret2
      exact ⟨tup2 HN.out.1.symm HN.out.2.symm, Below.refl _ _⟩
end Go.Proofs.YtcjamnfboifjeaaDoor

/-
  Signs and TextOk of the reference.
-/
namespace Go.Proofs.YtcjamnfboifjeaaDoor
open Go.RowKit
set_option linter.unusedVariables false

/-- A number as a value. -/
def iv (n : Nat) : Value := .int .i64 (n : Int)
theorem one_iv (n : Int) : ∀ u ∈ #[Value.int .i64 n].toList, u.oneCell' = true := by
  intro u hu; simp at hu; subst hu; rfl
theorem infoI : (Tryd.prog.info? 3).map (fun i => (i.zero, i.size, i.bytes)) = some (some (.int .i64 0), 1, 8) := by kernel_rfl
/-- What holds in the loop. -/
def SgRel (s : ByteArray) (w : World) (o i : Value) (wr : World) : Prop :=
  ∃ (j : Nat) (pre : List Nat), ReadTo s j pre ∧ i = .int .i64 j ∧ wr.ownsRow w.heap.size 3 1 o pre.length (pre.map iv) ∧ Below w.heap.size w wr

theorem sg_next {s : ByteArray} {w w' : World} {j : Nat} {pre : List Nat} {v : Value} (h : ReadTo s j pre) (hj : j < s.size) (hok : gsOk s (j : Int)) {a b : Int} (ha : a = (Utf8.decode s j).1) (hb : b = (j : Int) + (Utf8.decode s j).2)
    (hown : w'.ownsRow w.heap.size 3 1 v (pre.length + 1) (pre.map iv ++ [.int .i64 a])) (hbl : Below w.heap.size w w') : SgRel s w v (.int .i64 b) w' := by
  subst ha hb
  exact ⟨_, _, readTo_next h hj hok, by simp, by simpa [iv] using hown, hbl⟩

set_option maxHeartbeats 1000000 in
theorem specSigns (s : ByteArray) (w : World) (hs : s.size ≤ 1048576) :
    Calls Tryd.prog 108 #[.string s] w fun e w' => ∃ o, e = .returned o ∧ w'.ownsRow w.heap.size 3 1 o (signsL s).length ((signsL s).map iv) ∧ Below w.heap.size w w' := by
  go_enter Tryd.func108, Tryd.ntmps108
  go_wp2_with fail
  go_loopw [3, 4] (fun o i wr => SgRel s w o i wr) (fun _ i _ => s.size - (intOf i).toNat)
  case atStart => exact ⟨0, [], readTo_zero s, rfl, own_empty w _ _, (Below.refl _ _).alloc (Nat.le_refl _) _⟩
  case round =>
    obtain ⟨j, pre, hr, rfl, hown, hb⟩ := hrel
    have hle := hr.1
    have hpl := hr.2.1
    have HR := Lib.hid hr
    clear hr
    by_cases hlt : j < s.size
    · by_cases hok : gsOk s (j : Int)
      · have HY := Lib.hid (gs_yes' hok)
        have hp := dec_w s j
        go_wp2_with fail
        refine (specGetSign s j _ hs ⟨by omega, by omega⟩).mono ?_
        rintro e w1 ⟨rfl, hb1⟩
        have hown1 := own_below hown hb1
        have hbw := hb.trans (hb1.mono hb.size)
        have hg : gsE s (j : Int) = (j : Int) + (Utf8.decode s j).2 := HY.out.2
        have hpos : decide (gsE s (j : Int) < 0) = false := by rw [hg]; simp; omega
        have hpos2 : ¬ gsE s (j : Int) < 0 := by omega
        have HG := Lib.hid hg
        clear hg hown hb hb1
        go_wp2_with (at_builtin; refine wpList_app rfl (.tmp 21) (.tmp 23) 63 rfl w.heap.size 3 Tryd.underlying63 infoI rfl (by decide) (W := w) rfl (hown1.alloc _) (hbw.alloc hbw.size _) (Nat.le_trans hbw.size (by simp)) _ 1 1 _ rfl rfl (cells_new _ _ _) (one_iv _) (by unfold maxLen; omega) (by omega) ?_; intro v' w' hown' hb' hB')
        go_roundw
        case rel => exact sg_next HR.out hlt hok HY.out.1 HG.out hown' hb'
        case measure => have := HG.out; simp [intOf]; omega
      · have HN := Lib.hid (gs_no hok)
        have HE := Lib.hid (readTo_bad HR.out hlt hok)
        go_wp2_with fail
        refine (specGetSign s j _ hs ⟨by omega, by omega⟩).mono ?_
        rintro e w1 ⟨rfl, hb1⟩
        have hbw := hb.trans (hb1.mono hb.size)
        rw [HN.out.1, HN.out.2]
        go_wp2_with fail
        go_ret
        refine ⟨_, rfl, ?_, hbw.alloc hbw.size _⟩
        rw [HE.out.1]
        exact own_empty' _ _ hbw.size
    · have HE := Lib.hid (readTo_end HR.out hlt)
      go_wp2_with fail
      go_ret
      refine ⟨_, rfl, ?_, hb⟩
      rw [HE.out.1]
      exact hown

set_option maxHeartbeats 1000000 in
theorem specTextOk (s : ByteArray) (w : World) (hs : s.size ≤ 1048576) :
    Calls Tryd.prog 102 #[.string s] w fun e w' => e = .returned (.bool (textOk s)) ∧ Below w.heap.size w w' := by
  have HT := Lib.hid (textOk_signs s)
  by_cases h0 : s.size = 0
  · obtain rfl : s = ⟨#[]⟩ := by
      cases s with
      | mk d => cases d with
        | mk l => cases l with
          | nil => rfl
          | cons a l => simp [ByteArray.size] at h0
    go_enter Tryd.func102, Tryd.ntmps102
    go_wp2_with fail
    go_ret
    exact ⟨ret_eq (congrArg Value.bool (by rw [HT.out]; rfl)), Below.refl _ _⟩
  · have hne : s.toList.isEmpty = false := by
      rw [ByteArray.toList_eq]
      cases s with
      | mk d => cases d with
        | mk l => cases l with
          | nil => exact absurd rfl h0
          | cons a l => rfl
    have hz := signsL_len s
    have HE := Lib.hid (show textOk s = decide (0 < (signsL s).length) by rw [HT.out]; simp [h0])
    go_enter Tryd.func102, Tryd.ntmps102
    go_wp2_with fail
    refine (specSigns s w hs).mono ?_
    rintro e w1 ⟨o, rfl, hown, hb1⟩
    obtain ⟨A, c, rfl⟩ := own_slice hown
    clear hown
    go_wp2_with fail
    go_ret
    exact ⟨ret_eq (congrArg Value.bool (by rw [HE.out])), hb1⟩

end Go.Proofs.YtcjamnfboifjeaaDoor

/-
  The library's two tables of UTF-8.
-/
namespace Go.Proofs.YtcjamnfboifjeaaDoor
open Go.RowKit

/-- The library's tables. -/
def Tabs (w : World) : Prop := Lib.Utf8Tabs 0 1 w
theorem Tabs.below {w w' : World} (h : Tabs w) (hb : Below w.heap.size w w') : Tabs w' := Utf8Tabs_below h hb
end Go.Proofs.YtcjamnfboifjeaaDoor

/-
  TextOk of the program.
-/
namespace Go.Proofs.YtcjamnfboifjeaaDoor
open Go.RowKit
set_option linter.unusedVariables false

set_option maxHeartbeats 1000000 in
theorem implTextOk (s : ByteArray) (w : World) (hs : s.size ≤ 1048576) (hT : Tabs w) :
    Calls Tryd.prog 96 #[.string s] w fun e w' => e = .returned (.bool (textOk s)) ∧ Below w.heap.size w w' := by
  have HV := Lib.hid (valid_textOk s)
  go_enter Tryd.func96, Tryd.ntmps96
  go_wp2_with fail
  refine (Tryd.utf8_ValidString_v s w (by omega) hT).mono ?_
  rintro e w1 ⟨rfl, hb1⟩
  rw [HV.out]
  go_wp2_with fail
  go_ret
  exact ⟨rfl, hb1⟩
end Go.Proofs.YtcjamnfboifjeaaDoor

/-
  The program's test of a value but for its kids.
-/
namespace Go.Proofs.YtcjamnfboifjeaaDoor
open Go.RowKit
set_option linter.unusedVariables false
set_option maxRecDepth 100000

theorem sz_empty (s : ByteArray) : s.size = 0 ↔ s.toList = [] := by
  rw [ByteArray.toList_eq]
  constructor
  · intro h
    have : s.data.toList.length = 0 := by simpa using h
    exact List.length_eq_zero_iff.1 this
  · intro h
    have : s.data.toList.length = 0 := by rw [h]; rfl
    simpa using this
theorem szz (n : Nat) : n ≤ 2000 ↔ (n : Int) ≤ 2000 := by omega
theorem node_a {v : V} (h : v.k = 0 ∨ v.k = 1 ∨ v.k = 2 ∨ v.k = 7 ∨ v.k = 8) : nodeOk v ↔ v.n = 0 ∧ v.e = 0 ∧ v.s.toList = [] := by
  unfold nodeOk
  rw [if_pos h, sz_empty]
theorem node_3 {v : V} (h : v.k = 3) : nodeOk v ↔ v.e = 0 ∧ v.s.toList = [] := by
  unfold nodeOk
  rw [if_neg (by omega), if_pos h, sz_empty]
theorem node_4 {v : V} (h : v.k = 4) : nodeOk v ↔ decOk v.n v.e ∧ v.s.toList = [] := by
  unfold nodeOk
  rw [if_neg (by omega), if_neg (by omega), if_pos h, sz_empty]
theorem node_5 {v : V} (h : v.k = 5) : nodeOk v ↔ v.n = 0 ∧ v.e = 0 ∧ textOk v.s = true ∧ (v.s.size : Int) ≤ 2000 := by
  unfold nodeOk
  rw [if_neg (by omega), if_neg (by omega), if_neg (by omega), if_pos h, szz]
theorem node_6 {v : V} (h : v.k = 6) : nodeOk v ↔ v.n = 0 ∧ v.e = 0 ∧ (v.s.size : Int) ≤ 2000 := by
  unfold nodeOk
  rw [if_neg (by omega), if_neg (by omega), if_neg (by omega), if_neg (by omega), if_pos h, szz]
theorem node_9 {v : V} (h : v.k = 9) : nodeOk v ↔ 0 ≤ v.n ∧ v.n ≤ 1000000 ∧ v.e = 0 ∧ v.s.toList = [] := by
  unfold nodeOk
  rw [if_neg (by omega), if_neg (by omega), if_neg (by omega), if_neg (by omega), if_neg (by omega), if_pos h, sz_empty]
theorem node_else {v : V} (h : v.k < 0 ∨ 9 < v.k) : ¬ nodeOk v := by
  unfold nodeOk
  rw [if_neg (by omega), if_neg (by omega), if_neg (by omega), if_neg (by omega), if_neg (by omega), if_neg (by omega)]
  exact id
theorem bl_2a {w : World} {o o' : Obj} : Below w.heap.size w ((w.alloc o).alloc o') := ((Below.refl _ w).alloc (Nat.le_refl _) o).alloc (by simp) o'
theorem blk_first {w w1 : World} {o' : Obj} {t : TypeId} {cs : Array Value} (h : Below ((w.alloc (.cells cs t)).alloc o').heap.size ((w.alloc (.cells cs t)).alloc o') w1) : Blk w1 w.heap.size t cs :=
  ((Blk.new w t cs).alloc o').below h (by simp; omega)
theorem blk_second {w w1 : World} {o : Obj} {t : TypeId} {cs : Array Value} (h : Below ((w.alloc o).alloc (.cells cs t)).heap.size ((w.alloc o).alloc (.cells cs t)) w1) : Blk w1 (w.heap.size + 1) t cs := by
  have := (Blk.new (w.alloc o) t cs).below h (by simp)
  simpa using this
theorem bl_2b {w w1 : World} {o o' : Obj} (h : Below ((w.alloc o).alloc o').heap.size ((w.alloc o).alloc o') w1) : Below w.heap.size w w1 := bl_2a.trans (h.mono (by simp; omega))

set_option maxHeartbeats 4000000 in
theorem implNode_0 (v : V) (A : Option Addr) (cap : Nat) (w : World) (hk : v.k = 0) :
    Calls Tryd.prog 86 #[v.agg A cap] w fun e w' => e = .returned (.bool (decide (nodeOk v))) ∧ Below w.heap.size w w' := by
  have HO := Lib.hid (node_a (.inl hk))
  unfold V.agg
  go_enter Tryd.func86, Tryd.ntmps86
  go_wp2_with fail
  all_goals go_ret
  all_goals refine ⟨ret_bool ?_, bl_2a⟩
  all_goals first
    | (simp [HO.out, *]; done)
    | (simp [HO.out, *]; intros; omega)
    | (simp [HO.out, *]; cases v.s.toList <;> rfl)
    | (simp_all [HO.out]; done)
    | (simp_all [HO.out]; intros; omega)
    | (simp_all [HO.out]; cases v.s.toList <;> rfl)

set_option maxHeartbeats 4000000 in
theorem implNode_1 (v : V) (A : Option Addr) (cap : Nat) (w : World) (hk : v.k = 1) :
    Calls Tryd.prog 86 #[v.agg A cap] w fun e w' => e = .returned (.bool (decide (nodeOk v))) ∧ Below w.heap.size w w' := by
  have HO := Lib.hid (node_a (.inr (.inl hk)))
  unfold V.agg
  go_enter Tryd.func86, Tryd.ntmps86
  go_wp2_with fail
  all_goals go_ret
  all_goals refine ⟨ret_bool ?_, bl_2a⟩
  all_goals first
    | (simp [HO.out, *]; done)
    | (simp [HO.out, *]; intros; omega)
    | (simp [HO.out, *]; cases v.s.toList <;> rfl)
    | (simp_all [HO.out]; done)
    | (simp_all [HO.out]; intros; omega)
    | (simp_all [HO.out]; cases v.s.toList <;> rfl)

set_option maxHeartbeats 4000000 in
theorem implNode_2 (v : V) (A : Option Addr) (cap : Nat) (w : World) (hk : v.k = 2) :
    Calls Tryd.prog 86 #[v.agg A cap] w fun e w' => e = .returned (.bool (decide (nodeOk v))) ∧ Below w.heap.size w w' := by
  have HO := Lib.hid (node_a (.inr (.inr (.inl hk))))
  unfold V.agg
  go_enter Tryd.func86, Tryd.ntmps86
  go_wp2_with fail
  all_goals go_ret
  all_goals refine ⟨ret_bool ?_, bl_2a⟩
  all_goals first
    | (simp [HO.out, *]; done)
    | (simp [HO.out, *]; intros; omega)
    | (simp [HO.out, *]; cases v.s.toList <;> rfl)
    | (simp_all [HO.out]; done)
    | (simp_all [HO.out]; intros; omega)
    | (simp_all [HO.out]; cases v.s.toList <;> rfl)

set_option maxHeartbeats 4000000 in
theorem implNode_7 (v : V) (A : Option Addr) (cap : Nat) (w : World) (hk : v.k = 7) :
    Calls Tryd.prog 86 #[v.agg A cap] w fun e w' => e = .returned (.bool (decide (nodeOk v))) ∧ Below w.heap.size w w' := by
  have HO := Lib.hid (node_a (.inr (.inr (.inr (.inl hk)))))
  unfold V.agg
  go_enter Tryd.func86, Tryd.ntmps86
  go_wp2_with fail
  all_goals go_ret
  all_goals refine ⟨ret_bool ?_, bl_2a⟩
  all_goals first
    | (simp [HO.out, *]; done)
    | (simp [HO.out, *]; intros; omega)
    | (simp [HO.out, *]; cases v.s.toList <;> rfl)
    | (simp_all [HO.out]; done)
    | (simp_all [HO.out]; intros; omega)
    | (simp_all [HO.out]; cases v.s.toList <;> rfl)

set_option maxHeartbeats 4000000 in
theorem implNode_8 (v : V) (A : Option Addr) (cap : Nat) (w : World) (hk : v.k = 8) :
    Calls Tryd.prog 86 #[v.agg A cap] w fun e w' => e = .returned (.bool (decide (nodeOk v))) ∧ Below w.heap.size w w' := by
  have HO := Lib.hid (node_a (.inr (.inr (.inr (.inr hk)))))
  unfold V.agg
  go_enter Tryd.func86, Tryd.ntmps86
  go_wp2_with fail
  all_goals go_ret
  all_goals refine ⟨ret_bool ?_, bl_2a⟩
  all_goals first
    | (simp [HO.out, *]; done)
    | (simp [HO.out, *]; intros; omega)
    | (simp [HO.out, *]; cases v.s.toList <;> rfl)
    | (simp_all [HO.out]; done)
    | (simp_all [HO.out]; intros; omega)
    | (simp_all [HO.out]; cases v.s.toList <;> rfl)

set_option maxHeartbeats 4000000 in
theorem implNode_3 (v : V) (A : Option Addr) (cap : Nat) (w : World) (hk : v.k = 3) :
    Calls Tryd.prog 86 #[v.agg A cap] w fun e w' => e = .returned (.bool (decide (nodeOk v))) ∧ Below w.heap.size w w' := by
  have HO := Lib.hid (node_3 hk)
  unfold V.agg
  go_enter Tryd.func86, Tryd.ntmps86
  go_wp2_with fail
  all_goals go_ret
  all_goals refine ⟨ret_bool ?_, bl_2a⟩
  all_goals first
    | (simp [HO.out, *]; done)
    | (simp [HO.out, *]; intros; omega)
    | (simp [HO.out, *]; cases v.s.toList <;> rfl)
    | (simp_all [HO.out]; done)
    | (simp_all [HO.out]; intros; omega)
    | (simp_all [HO.out]; cases v.s.toList <;> rfl)

set_option maxHeartbeats 4000000 in
theorem implNode_6 (v : V) (A : Option Addr) (cap : Nat) (w : World) (hk : v.k = 6) :
    Calls Tryd.prog 86 #[v.agg A cap] w fun e w' => e = .returned (.bool (decide (nodeOk v))) ∧ Below w.heap.size w w' := by
  have HO := Lib.hid (node_6 hk)
  unfold V.agg
  go_enter Tryd.func86, Tryd.ntmps86
  go_wp2_with fail
  all_goals go_ret
  all_goals refine ⟨ret_bool ?_, bl_2a⟩
  all_goals first
    | (simp [HO.out, *]; done)
    | (simp [HO.out, *]; intros; omega)
    | (simp [HO.out, *]; cases v.s.toList <;> rfl)
    | (simp_all [HO.out]; done)
    | (simp_all [HO.out]; intros; omega)
    | (simp_all [HO.out]; cases v.s.toList <;> rfl)

set_option maxHeartbeats 4000000 in
theorem implNode_9 (v : V) (A : Option Addr) (cap : Nat) (w : World) (hk : v.k = 9) :
    Calls Tryd.prog 86 #[v.agg A cap] w fun e w' => e = .returned (.bool (decide (nodeOk v))) ∧ Below w.heap.size w w' := by
  have HO := Lib.hid (node_9 hk)
  unfold V.agg
  go_enter Tryd.func86, Tryd.ntmps86
  go_wp2_with (go_at_call 97; go_in)
  all_goals go_ret
  all_goals refine ⟨ret_bool ?_, bl_2a⟩
  all_goals first
    | (simp [HO.out, *]; done)
    | (simp [HO.out, *]; intros; omega)
    | (simp [HO.out, *]; cases v.s.toList <;> rfl)
    | (simp_all [HO.out]; done)
    | (simp_all [HO.out]; intros; omega)
    | (simp_all [HO.out]; cases v.s.toList <;> rfl)

set_option maxHeartbeats 4000000 in
theorem implNode_5 (v : V) (A : Option Addr) (cap : Nat) (w : World) (hk : v.k = 5) (hs : v.s.size ≤ 1048576) (hT : Tabs w) :
    Calls Tryd.prog 86 #[v.agg A cap] w fun e w' => e = .returned (.bool (decide (nodeOk v))) ∧ Below w.heap.size w w' := by
  have HO := Lib.hid (node_5 hk)
  unfold V.agg
  go_enter Tryd.func86, Tryd.ntmps86
  go_wp2_with (go_at_call 96; refine (implTextOk v.s _ hs (hT.below bl_2a)).mono ?_; rintro e w1 ⟨rfl, hb1⟩; obtain ⟨p0, p1, p2, p3, p4⟩ := (blk_first hb1).five; obtain ⟨q0, q1, q2, q3, q4⟩ := (blk_second hb1).five; have f1 := (blk_second hb1).frozen 1; have f2 := (blk_second hb1).frozen 2; have f3 := (blk_second hb1).frozen 3)
  all_goals go_ret
  all_goals refine ⟨ret_bool ?_, by first | exact bl_2a | exact bl_2b hb1 | exact (bl_2b hb1).setCell (p := ⟨w.heap.size + 1, 3, none⟩) (by simp) _⟩
  all_goals first
    | (simp [HO.out, *]; done)
    | (simp [HO.out, *]; intros; omega)
    | (simp_all [HO.out]; done)
    | (simp_all [HO.out]; intros; omega)
    | (simp_all [HO.out]; cases h : textOk v.s <;> simp_all <;> omega)
end Go.Proofs.YtcjamnfboifjeaaDoor

/-
  The program's test of a decimal number but for its kids.
-/
namespace Go.Proofs.YtcjamnfboifjeaaDoor
open Go.RowKit
set_option linter.unusedVariables false
set_option maxRecDepth 100000

set_option maxHeartbeats 4000000 in
theorem implNode_4 (v : V) (A : Option Addr) (cap : Nat) (w : World) (hk : v.k = 4) :
    Calls Tryd.prog 86 #[v.agg A cap] w fun e w' => e = .returned (.bool (decide (nodeOk v))) ∧ Below w.heap.size w w' := by
  have HO := Lib.hid (node_4 hk)
  unfold V.agg
  go_enter Tryd.func86, Tryd.ntmps86
  go_wp2_with fail
  have hI := fun w0 => implIsDec v A cap w0
  unfold V.agg at hI
  rw [hk] at hI
  refine (hI _).mono ?_
  rintro e w1 ⟨rfl, hb1⟩
  obtain ⟨p0, p1, p2, p3, p4⟩ := (blk_first hb1).five
  obtain ⟨q0, q1, q2, q3, q4⟩ := (blk_second hb1).five
  have f1 := (blk_second hb1).frozen 1
  have f2 := (blk_second hb1).frozen 2
  have f3 := (blk_second hb1).frozen 3
  have HBB := Lib.hid (bl_2b hb1)
  clear hb1
  by_cases hd : decOk v.n v.e
  · rw [show decide (decOk v.n v.e) = true from decide_eq_true hd]
    have HD := Lib.hid hd
    clear hd
    go_wp2_with fail
    go_region
    all_goals go_wp2_with fail
    all_goals go_ret
    all_goals refine ⟨ret_bool (by simp only [HO.out, HD.out, true_and]; cases v.s.toList <;> simp), ?_⟩
    all_goals first
      | exact ((HBB.out.setCell (p := ⟨w.heap.size + 1, 1, none⟩) (by simp) _).setCell (p := ⟨w.heap.size + 1, 2, none⟩) (by simp) _).drew
      | exact ((HBB.out.drew.setCell (p := ⟨w.heap.size + 1, 1, none⟩) (by simp) _).setCell (p := ⟨w.heap.size + 1, 2, none⟩) (by simp) _)
      | exact ((HBB.out.setCell (p := ⟨w.heap.size + 1, 2, none⟩) (by simp) _).setCell (p := ⟨w.heap.size + 1, 1, none⟩) (by simp) _).drew
  · rw [show decide (decOk v.n v.e) = false from decide_eq_false hd]
    have HN : Hid (¬ nodeOk v) := Lib.hid (fun h => hd (HO.out.1 h).1)
    clear hd
    go_wp2_with fail
    go_ret
    exact ⟨ret_bool (decide_eq_false HN.out).symm, HBB.out⟩
end Go.Proofs.YtcjamnfboifjeaaDoor

/-
  The program's isNode, whole; isKey.
-/
namespace Go.Proofs.YtcjamnfboifjeaaDoor
open Go.RowKit
set_option linter.unusedVariables false
set_option maxRecDepth 100000

set_option maxHeartbeats 2000000 in
theorem implNode_else (v : V) (A : Option Addr) (cap : Nat) (w : World) (hk : v.k < 0 ∨ 9 < v.k) :
    Calls Tryd.prog 86 #[v.agg A cap] w fun e w' => e = .returned (.bool (decide (nodeOk v))) ∧ Below w.heap.size w w' := by
  have HO := Lib.hid (node_else hk)
  have q0 : (v.k == 0) = false := by rw [beq_eq_false_iff_ne]; omega
  have q1 : (v.k == 1) = false := by rw [beq_eq_false_iff_ne]; omega
  have q2 : (v.k == 2) = false := by rw [beq_eq_false_iff_ne]; omega
  have q3 : (v.k == 3) = false := by rw [beq_eq_false_iff_ne]; omega
  have q4 : (v.k == 4) = false := by rw [beq_eq_false_iff_ne]; omega
  have q5 : (v.k == 5) = false := by rw [beq_eq_false_iff_ne]; omega
  have q6 : (v.k == 6) = false := by rw [beq_eq_false_iff_ne]; omega
  have q7 : (v.k == 7) = false := by rw [beq_eq_false_iff_ne]; omega
  have q8 : (v.k == 8) = false := by rw [beq_eq_false_iff_ne]; omega
  have q9 : (v.k == 9) = false := by rw [beq_eq_false_iff_ne]; omega
  clear hk
  unfold V.agg
  go_enter Tryd.func86, Tryd.ntmps86
  go_wp2_with fail
  go_ret
  exact ⟨ret_bool (decide_eq_false HO.out).symm, bl_2a⟩
theorem implNode (v : V) (A : Option Addr) (cap : Nat) (w : World) (hs : v.s.size ≤ 1048576) (hT : Tabs w) :
    Calls Tryd.prog 86 #[v.agg A cap] w fun e w' => e = .returned (.bool (decide (nodeOk v))) ∧ Below w.heap.size w w' := by
  rcases (show v.k = 0 ∨ v.k = 1 ∨ v.k = 2 ∨ v.k = 3 ∨ v.k = 4 ∨ v.k = 5 ∨ v.k = 6 ∨ v.k = 7 ∨ v.k = 8 ∨ v.k = 9 ∨ (v.k < 0 ∨ 9 < v.k) by omega) with h | h | h | h | h | h | h | h | h | h | h
  · exact implNode_0 v A cap w h
  · exact implNode_1 v A cap w h
  · exact implNode_2 v A cap w h
  · exact implNode_3 v A cap w h
  · exact implNode_4 v A cap w h
  · exact implNode_5 v A cap w h hs hT
  · exact implNode_6 v A cap w h
  · exact implNode_7 v A cap w h
  · exact implNode_8 v A cap w h
  · exact implNode_9 v A cap w h
  · exact implNode_else v A cap w h
set_option maxHeartbeats 1000000 in
theorem implIsKey (v : V) (A : Option Addr) (cap : Nat) (w : World) :
    Calls Tryd.prog 98 #[v.agg A cap] w fun e w' => e = .returned (.bool (isKeyB v)) ∧ Below w.heap.size w w' := by
  unfold V.agg
  go_enter Tryd.func98, Tryd.ntmps98
  go_wp2_with fail
  all_goals go_ret
  all_goals exact ⟨ret_bool (by unfold isKeyB; first | (simp [*]; done) | (rw [Bool.eq_iff_iff]; simp [*])), (Below.refl _ _).alloc (Nat.le_refl _) _⟩
end Go.Proofs.YtcjamnfboifjeaaDoor

/-
  The program's areKids.
-/
namespace Go.Proofs.YtcjamnfboifjeaaDoor
open Go.RowKit
set_option linter.unusedVariables false
set_option maxRecDepth 100000

/-- Two keys are one, by what the program compares. -/
def keySame (a b : V) : Prop := V.same b a = true
def pairsI (l : List V) : Prop := pairsTo keySame l l.length ∧ l.length % 2 = 0
def kidsI (v : V) : Prop := if v.k = 7 then True else if v.k = 9 then v.kids.length = 1 else if v.k = 8 then pairsI v.kids else v.kids.length = 0
theorem kidsI_8 {v : V} (h : v.k = 8) : kidsI v ↔ pairsI v.kids := by
  unfold kidsI
  rw [if_neg (by omega), if_neg (by omega), if_pos h]
theorem pairsToP_step {R : V → V → Prop} {l : List V} {j : Nat} (hj : j < l.length) (he : j % 2 = 0) (h : pairsTo R l j) (hk : isKeyB l[j] = true) (hn : ∀ k (hk : k < j), k % 2 = 0 → ¬ R (l[k]'(by omega)) l[j]) : pairsTo R l (j + 2) := by
  intro i hi hlt hev
  by_cases e : i = j
  · subst e; exact ⟨hk, hn⟩
  · exact h i hi (by omega) hev
theorem pairsToP_end {R : V → V → Prop} {l : List V} {j : Nat} (hj : l.length ≤ j) (h : pairsTo R l j) : pairsTo R l l.length := fun i hi _ he => h i hi (by omega) he

set_option maxHeartbeats 4000000 in
theorem implKids_8 (v : V) (A : Option Addr) (cap : Nat) (w : World) (hk : v.k = 8) (hn : v.nodes ≤ 1048577) (hat : Vs.at_ w 0 w.heap.size v.kids A) :
    Calls Tryd.prog 87 #[v.agg A cap] w fun e w' => e = .returned (.bool (decide (kidsI v))) ∧ Below w.heap.size w w' := by
  have HO := Lib.hid (kidsI_8 hk)
  have HA := Lib.hid hat
  have q7 : (v.k == 7) = false := by rw [hk]; rfl
  have q9 : (v.k == 9) = false := by rw [hk]; rfl
  have q8 : (v.k == 8) = true := by rw [hk]; rfl
  have hl : v.kids.length ≤ 1048576 := by have := Vs.len_nodes v.kids; have := V.nodes_eq v; omega
  have HNN := Lib.hid (fun (i : Nat) (h : i < v.kids.length) => show (v.kids[i]).nodes ≤ 1048577 by have := Vs.nodes_get i h; have := V.nodes_eq v; omega)
  clear hk hat hn
  unfold V.agg
  go_enter Tryd.func87, Tryd.ntmps87
  go_wp2_with fail
  go_loopw [3, 4] (fun i k wr => ∃ j : Nat, j ≤ v.kids.length + 1 ∧ j % 2 = 0 ∧ i = .int .i64 j ∧ pairsTo keySame v.kids j ∧ Blk wr w.heap.size 28 #[.int .i64 v.k, .int .i64 v.n, .int .i64 v.e, .string v.s, .slice A v.kids.length cap] ∧ Below w.heap.size w wr) (fun i _ _ => v.kids.length + 2 - (intOf i).toNat)
  case atStart => exact ⟨0, by omega, rfl, rfl, fun i _ h => by omega, Blk.new _ _ _, (Below.refl _ _).alloc (Nat.le_refl _) _⟩
  case round =>
    obtain ⟨j, hj, he, rfl, hp, B, hb⟩ := hrel
    have HP := Lib.hid hp
    have b4 : wr.cell? ⟨w.heap.size, 4, none⟩ = some (.slice A v.kids.length cap) := B.cell 4
    clear hp
    by_cases hlt : j < v.kids.length
    · obtain ⟨b, off, A', cap', eA, g1, g2, g3, ⟨c0, c1, c2, c3, c4⟩, g5⟩ := Vs.at_get j hlt (Vs.at_below HA.out hb (Nat.le_refl _))
      subst eA
      go_wp2_with fail
      refine (implIsKey v.kids[j] A' cap' _).mono ?_
      rintro e w1 ⟨rfl, hb1⟩
      have B1 := B.below hb1 B.lt
      have b1 := hb.trans (hb1.mono hb.size)
      clear c0 c1 c2 c3 c4 b4 g5
      by_cases hkey : isKeyB v.kids[j] = true
      · rw [hkey]
        have HKEY := Lib.hid hkey
        clear hkey
        go_wp2_with fail
        go_loopw [4] (fun k wq => ∃ m : Nat, m ≤ j + 1 ∧ m % 2 = 0 ∧ k = .int .i64 m ∧ (∀ q (hq : q < j), q < m → q % 2 = 0 → ¬ keySame (v.kids[q]'(by omega)) v.kids[j]) ∧ Blk wq w.heap.size 28 #[.int .i64 v.k, .int .i64 v.n, .int .i64 v.e, .string v.s, .slice (some ⟨b, off, none⟩) v.kids.length cap] ∧ Below w.heap.size w wq) (fun k _ => j + 2 - (intOf k).toNat)
        case atStart => exact ⟨0, by omega, rfl, rfl, fun q _ h => by omega, B1, b1⟩
        case round =>
          obtain ⟨m, hm, hme, rfl, hnot, Bq, hbq⟩ := hrel
          have HNOT := Lib.hid hnot
          have b4 : wr.cell? ⟨w.heap.size, 4, none⟩ = some (.slice (some ⟨b, off, none⟩) v.kids.length cap) := Bq.cell 4
          clear hnot
          by_cases hmj : m < j
          · have hmlt : m < v.kids.length := by omega
            obtain ⟨b1, off1, A1, cap1, e1, k1, k2, k3, ⟨d0, d1, d2, d3, d4⟩, k5⟩ := Vs.at_get m hmlt (Vs.at_below HA.out hbq (Nat.le_refl _))
            obtain ⟨b2, off2, A2, cap2, e2, m1, m2, m3, ⟨f0, f1, f2, f3, f4⟩, m5⟩ := Vs.at_get j hlt (Vs.at_below HA.out hbq (Nat.le_refl _))
            injection e1 with e1
            injection e1 with e11 e12
            injection e2 with e2
            injection e2 with e21 e22
            subst e11 e12 e21 e22
            go_wp2_with fail
            go_still_tail 10, (by kernel_rfl)
            change wpList _ _ _ _ _ wr.drew
            go_wp2_with fail
            refine (implSame v.kids[j] v.kids[m] A2 A1 cap2 cap1 wr.drew (HNN.out j hlt) (HNN.out m hmlt) (Vs.at_more (Nat.le_refl _) hbq.size _ _ (Vs.at_drew m5)) (Vs.at_more (Nat.le_refl _) hbq.size _ _ (Vs.at_drew k5))).mono ?_
            rintro e w2 ⟨rfl, hb2⟩
            have hbw : Below w.heap.size w w2 := hbq.drew.trans (hb2.mono hbq.size)
            have B2 := (Bq.drew).below hb2 Bq.lt
            clear d0 d1 d2 d3 d4 f0 f1 f2 f3 f4 b4 k5 m5
            by_cases hq : V.same v.kids[j] v.kids[m] = true
            · rw [hq]
              have HN : Hid (¬ kidsI v) := Lib.hid (fun h => ((HO.out.1 h).1 j hlt hlt he).2 m hmj hme hq)
              clear hq
              go_wp2_with fail
              go_ret
              exact ⟨ret_bool (decide_eq_false HN.out).symm, hbw⟩
            · have HQ := Lib.hid hq
              rw [show V.same v.kids[j] v.kids[m] = false by simpa using hq]
              clear hq
              go_wp2_with fail
              go_roundw
              case rel => exact ⟨m + 2, by omega, by omega, by go_num, fun q hq1 hq2 hq3 => by
                by_cases e : q = m
                · subst e; exact HQ.out
                · exact HNOT.out q hq1 (by omega) hq3, B2, hbw⟩
              case measure => simp [intOf]; omega
          · have HST := Lib.hid (pairsToP_step hlt he HP.out HKEY.out (fun k hk hke => HNOT.out k hk (by omega) hke))
            go_wp2_with fail
            go_roundw
            case rel => exact ⟨j + 2, by omega, by omega, by go_num, HST.out, Bq, hbq⟩
            case measure => simp [intOf]; omega
      · have hkf : isKeyB v.kids[j] = false := by simpa using hkey
        have HN : Hid (¬ kidsI v) := Lib.hid (fun h => hkey ((HO.out.1 h).1 j hlt hlt he).1)
        rw [hkf]
        go_wp2_with fail
        go_ret
        exact ⟨ret_bool (decide_eq_false HN.out).symm, b1⟩
    · have HE : Hid (kidsI v ↔ v.kids.length % 2 = 0) := Lib.hid (HO.out.trans ⟨fun h => h.2, fun h => ⟨pairsToP_end (by omega) HP.out, h⟩⟩)
      by_cases hev : v.kids.length % 2 = 0
      · have hx : ((v.kids.length : Int) % 2 == 0) = true := by rw [beq_iff_eq]; omega
        go_wp2_with fail
        go_ret
        exact ⟨ret_bool (decide_eq_true (HE.out.2 hev)).symm, hb⟩
      · have hx : ((v.kids.length : Int) % 2 == 0) = false := by rw [beq_eq_false_iff_ne]; omega
        go_wp2_with fail
        go_ret
        exact ⟨ret_bool (decide_eq_false (fun h => hev (HE.out.1 h))).symm, hb⟩

set_option maxHeartbeats 1000000 in
theorem implKids_7 (v : V) (A : Option Addr) (cap : Nat) (w : World) (hk : v.k = 7) :
    Calls Tryd.prog 87 #[v.agg A cap] w fun e w' => e = .returned (.bool (decide (kidsI v))) ∧ Below w.heap.size w w' := by
  have HO : Hid (kidsI v) := Lib.hid (by unfold kidsI; rw [if_pos hk]; trivial)
  have q7 : (v.k == 7) = true := by rw [hk]; rfl
  clear hk
  unfold V.agg
  go_enter Tryd.func87, Tryd.ntmps87
  go_wp2_with fail
  go_ret
  exact ⟨ret_bool (decide_eq_true HO.out).symm, (Below.refl _ _).alloc (Nat.le_refl _) _⟩
theorem int_eq_dec (n m : Nat) : ((n : Int) == (m : Int)) = decide (n = m) := by rw [Bool.eq_iff_iff]; simp; omega
set_option maxHeartbeats 1000000 in
theorem implKids_9 (v : V) (A : Option Addr) (cap : Nat) (w : World) (hk : v.k = 9) (hl : v.kids.length ≤ 1048576) :
    Calls Tryd.prog 87 #[v.agg A cap] w fun e w' => e = .returned (.bool (decide (kidsI v))) ∧ Below w.heap.size w w' := by
  have HO : Hid (decide (kidsI v) = ((v.kids.length : Int) == 1)) := Lib.hid (by
    have h := int_eq_dec v.kids.length 1
    rw [show ((1 : Nat) : Int) = 1 from rfl] at h
    rw [h]
    exact decide_eq_decide.2 (by unfold kidsI; rw [if_neg (by omega), if_pos hk]))
  have q7 : (v.k == 7) = false := by rw [hk]; rfl
  have q9 : (v.k == 9) = true := by rw [hk]; rfl
  clear hk
  unfold V.agg
  go_enter Tryd.func87, Tryd.ntmps87
  go_wp2_with fail
  go_ret
  exact ⟨ret_bool HO.out.symm, (Below.refl _ _).alloc (Nat.le_refl _) _⟩
set_option maxHeartbeats 1000000 in
theorem implKids_0 (v : V) (A : Option Addr) (cap : Nat) (w : World) (hk : v.k ≠ 7 ∧ v.k ≠ 8 ∧ v.k ≠ 9) (hl : v.kids.length ≤ 1048576) :
    Calls Tryd.prog 87 #[v.agg A cap] w fun e w' => e = .returned (.bool (decide (kidsI v))) ∧ Below w.heap.size w w' := by
  have HO : Hid (decide (kidsI v) = ((v.kids.length : Int) == 0)) := Lib.hid (by
    have h := int_eq_dec v.kids.length 0
    rw [show ((0 : Nat) : Int) = 0 from rfl] at h
    rw [h]
    exact decide_eq_decide.2 (by unfold kidsI; rw [if_neg hk.1, if_neg hk.2.2, if_neg hk.2.1]))
  have q7 : (v.k == 7) = false := by rw [beq_eq_false_iff_ne]; exact hk.1
  have q9 : (v.k == 9) = false := by rw [beq_eq_false_iff_ne]; exact hk.2.2
  have q8 : (v.k == 8) = false := by rw [beq_eq_false_iff_ne]; exact hk.2.1
  clear hk
  unfold V.agg
  go_enter Tryd.func87, Tryd.ntmps87
  go_wp2_with fail
  go_ret
  exact ⟨ret_bool HO.out.symm, (Below.refl _ _).alloc (Nat.le_refl _) _⟩
theorem implKids (v : V) (A : Option Addr) (cap : Nat) (w : World) (hn : v.nodes ≤ 1048577) (hat : Vs.at_ w 0 w.heap.size v.kids A) :
    Calls Tryd.prog 87 #[v.agg A cap] w fun e w' => e = .returned (.bool (decide (kidsI v))) ∧ Below w.heap.size w w' := by
  have hl : v.kids.length ≤ 1048576 := by have := Vs.len_nodes v.kids; have := V.nodes_eq v; omega
  rcases (show v.k = 7 ∨ v.k = 8 ∨ v.k = 9 ∨ (v.k ≠ 7 ∧ v.k ≠ 8 ∧ v.k ≠ 9) by omega) with h | h | h | h
  · exact implKids_7 v A cap w h
  · exact implKids_8 v A cap w h hn hat
  · exact implKids_9 v A cap w h hl
  · exact implKids_0 v A cap w h hl
end Go.Proofs.YtcjamnfboifjeaaDoor
