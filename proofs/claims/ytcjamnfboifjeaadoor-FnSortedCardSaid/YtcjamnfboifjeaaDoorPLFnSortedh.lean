/-
  The texts on which the last one leans, part 8: SortS, RightS, RightO, RightR, RightW, RightX.
-/
import Derived.Test.YtcjamnfboifjeaaDoorPLFnSortedg
import Derived.Deep.RegionHeld3
import Derived.BigQuiet
import Derived.Deep.QuietTactic
import Derived.Shelf.Abstract
import Derived.Deep.RegionWith
/-
  The reference's l02Sort.
-/
namespace Go.Proofs.YtcjamnfboifjeaaDoor
open Go.RowKit
set_option linter.unusedVariables false
set_option linter.unusedSimpArgs false
set_option maxRecDepth 100000

section
variable {P : Program} {ops : Array Oper} {o : Oper} {a : Act} {w : World} {K : Act → World → Prop} {Q : Exit → Act → World → Prop}
/-- An append as one step of a region that draws its order: which block may have changed, and where the row lies. -/
theorem step_app2 {E : Prop} (hgd : o.guard = none) (s x : Operand) (t : TypeId) (ho : o.op = .call { callee := .builtin .append, args := #[s, x], argTypes := #[t, t] })
    (base : Nat) (e : TypeId) {z : Value} {size bytes : Nat} (ht : P.underlying t = some (.slice e)) (hinfo : (P.info? e).map (fun i => (i.zero, i.size, i.bytes)) = some (some z, size, bytes)) (hzs : z.cells.size = size) (hsz : 0 < size)
    {v : Value} {n : Nat} {xs : List Value} (hs : a.eval s = v) (hown : w.ownsRow base e size v n xs) (hB : base ≤ w.heap.size)
    (ad : Addr) (m c : Nat) (news : List Value) (hx : a.eval x = .slice (some ad) m c) (hl : news.length = m * size) (hnews : ∀ j u, news[j]? = some u → w.cell? (ad.add j) = some u) (h1 : ∀ u ∈ news, u.oneCell' = true)
    (h63 : n + m ≤ maxLen) (hbytes : (n + m) * bytes ≤ 140737488355328)
    (h : ∀ v' w', w'.ownsRow base e size v' (n + m) (xs ++ news) → w.grownBy w' v.ownBlock → K (a.put o.dst v') w') :
    if Region.wanted o (yielded ops a.tmps) = true then Oper.wp P o a w K Q else E := by
  rw [if_pos (by simp [Region.wanted, hgd])]
  obtain ⟨i, hi, hz, hsize, hby⟩ := info_parts hinfo
  obtain ⟨v', w', hrun, h2, h3, h4, h5⟩ := run_append_own_at (P := P) w base t o.type e i z size bytes ht hi hz hsize hby hzs hsz v n xs hown ad m c news hl hnews h1 h63 hbytes hB
  unfold Oper.wp execOp
  simp only [ho, resolve, invoke, builtin, Sem.run_bind, Sem.run_pure, Result.andThen_ok, List.map_toArray, List.map_cons, List.map_nil, hs, hx, hrun]
  exact h v' w' h2 h3
end
def SrtSaidS (v : V) : Prop := ∀ (A : Option Addr) (cap : Nat) (w : World), v.nodes ≤ 1048577 → V.fitM v → Vs.at_ w 0 w.heap.size v.kids A →
    Calls Tryd.prog 46 #[v.agg A cap] w (Copied v.srt w)
/-- What the first loop has laid. -/
def SsRel (v : V) (A : Option Addr) (cap : Nat) (w : World) (o i : Value) (wr : World) : Prop :=
  ∃ (j : Nat) (es : List Ent) (G : List Nat), i = .int .i64 (j : Int) ∧ j ≤ v.kids.length ∧ Hid (es.map (·.1) = (v.kids.take j).map V.srt) ∧ Hid (RowOf wr (w.heap.size + 2) o es G) ∧ Hid (Blk wr w.heap.size 28 #[.int .i64 v.k, .int .i64 v.n, .int .i64 v.e, .string v.s, .slice A v.kids.length cap]) ∧ Hid (Blk wr (w.heap.size + 1) 28 #[.int .i64 0, .int .i64 0, .int .i64 0, .string ⟨#[]⟩, .slice none 0 0]) ∧ Hid (Below w.heap.size w wr) ∧ Hid (w.heap.size + 2 ≤ wr.heap.size)
theorem SsRel.next {v : V} {A : Option Addr} {cap : Nat} {w wr w1 w2 w' : World} {j : Nat} {es : List Ent} {G F : List Nat} {o v' : Value} {A2 : Option Addr} {c : Nat} (hj : j < v.kids.length) (he : es.map (·.1) = (v.kids.take j).map V.srt) (hr : RowOf wr (w.heap.size + 2) o es G)
    (hB0 : Blk wr w.heap.size 28 #[.int .i64 v.k, .int .i64 v.n, .int .i64 v.e, .string v.s, .slice A v.kids.length cap]) (hB1 : Blk wr (w.heap.size + 1) 28 #[.int .i64 0, .int .i64 0, .int .i64 0, .string ⟨#[]⟩, .slice none 0 0]) (hW : Below w.heap.size w wr) (hS : w.heap.size + 2 ≤ wr.heap.size) (hc : (v.kids[j]).srt.kids.length ≤ c) (hl : Vs.lies w1 (v.kids[j]).srt.kids A2 F) (hnd : F.Nodup) (hF : ∀ x ∈ F, wr.heap.size ≤ x)
    (hb1 : Below wr.heap.size wr w1) (h2 : Below w1.heap.size w1 w2) (hown' : w'.ownsRow (w.heap.size + 2) 28 5 v' (es.length + 1) (flat es ++ Ent.cells ((v.kids[j]).srt, A2, c))) (hg : w2.grownBy w' o.ownBlock) (hv : v'.ownBlock = o.ownBlock ∨ v'.ownBlock = some w2.heap.size) :
    SsRel v A cap w v' (.int .i64 ((j : Int) + 1)) w' := by
  have hr1 := hr.below (Nat.le_refl _) hb1
  have hlt := hr.lt
  have h := hr1.push hc hl hnd (fun x hx => Nat.le_trans hS (hF x hx)) (fun x hx hG => by have := hlt x hG; have := hF x hx; omega)
    (fun g hg' hx => by have := (hr.own.lt g hg').2; have := hF g hx; omega) h2 hown' hg hv
  have z1 := hb1.size
  have z2 := h2.size
  have z3 := hg.size
  have hB : Below (w.heap.size + 2) wr w' := ((hb1.mono hS).trans (h2.mono (by omega))).grown hg (by omega) (fun k hk => (hr.own.lt k hk).1)
  refine ⟨j + 1, _, _, by go_num, hj, Lib.hid ?_, Lib.hid h, Lib.hid (hB0.below hB (by omega)), Lib.hid (hB1.below hB (by omega)), Lib.hid (hW.trans (hB.mono (by omega))), Lib.hid (by omega)⟩
  rw [List.map_append, he, List.take_succ_eq_append_getElem hj, List.map_append]; rfl
theorem eq_len {v : V} {es : List Ent} {j : Nat} (h : es.map (·.1) = (v.kids.take j).map V.srt) (hj : j ≤ v.kids.length) : es.length = j := by
  have := congrArg List.length h
  simpa [Nat.min_eq_left hj] using this
/-- What the sorting loop has laid: W, the world at its head. -/
def SoRel (es : List Ent) (W : World) (o i : Value) (wr : World) : Prop :=
  ∃ (m jn on : Nat) (D : List PEnt) (g5 c5 : Nat), i = .int .i64 (jn : Int) ∧ o = .slice (some ⟨g5, 0, none⟩) on c5 ∧ jn ≤ 1000 ∧ on ≤ 1000 ∧ on ≤ c5 ∧ Hid (jn = 2 * m ∧ on = 2 * m ∧ D.length = m ∧ m ≤ es.length / 2) ∧ Hid (D.Perm ((pairsL es).take m)) ∧ Hid (D.Pairwise kle) ∧ Hid (wr.ownsRow W.heap.size 28 5 (.slice (some ⟨g5, 0, none⟩) on c5) on (flatP D)) ∧ Hid (Below W.heap.size W wr) ∧ Hid (W.heap.size ≤ wr.heap.size)
/-- What the search for the place has found. -/
def SeRel (x : PEnt) (D : List PEnt) (wr : World) (t : Value) (wq : World) : Prop :=
  ∃ (S1 S2 : List PEnt) (an : Nat), t = .int .i64 (an : Int) ∧ an ≤ 1000 ∧ Hid (an = 2 * S1.length) ∧ Hid (S1 ++ S2 = D) ∧ Hid (∀ s ∈ S2, kc x s < 0) ∧ Hid (Below wr.heap.size wr wq)
theorem kid_cells {W : World} {base gK cK m jn : Nat} {es : List Ent} {G : List Nat} {x : PEnt} (hr : RowOf W base (.slice (some ⟨gK, 0, none⟩) es.length cK) es G) (hj : jn = 2 * m) (h : jn + 1 < es.length) (hx : (pairsL es)[m]? = some x) :
    ∀ W' : World, Below W.heap.size W W' → W'.cell? ⟨gK, jn * 5, none⟩ = some (.int .i64 x.1.1.k) ∧ W'.cell? ⟨gK, jn * 5 + 1, none⟩ = some (.int .i64 x.1.1.n) ∧ W'.cell? ⟨gK, jn * 5 + 2, none⟩ = some (.int .i64 x.1.1.e) ∧ W'.cell? ⟨gK, jn * 5 + 3, none⟩ = some (.string x.1.1.s) ∧ W'.cell? ⟨gK, jn * 5 + 4, none⟩ = some (.slice x.1.2.1 x.1.1.kids.length x.1.2.2) ∧ W'.cell? ⟨gK, (jn + 1) * 5, none⟩ = some (.int .i64 x.2.1.k) ∧ W'.cell? ⟨gK, (jn + 1) * 5 + 1, none⟩ = some (.int .i64 x.2.1.n) ∧ W'.cell? ⟨gK, (jn + 1) * 5 + 2, none⟩ = some (.int .i64 x.2.1.e) ∧ W'.cell? ⟨gK, (jn + 1) * 5 + 3, none⟩ = some (.string x.2.1.s) ∧ W'.cell? ⟨gK, (jn + 1) * 5 + 4, none⟩ = some (.slice x.2.2.1 x.2.1.kids.length x.2.2.2) := by
  intro W' hb
  subst hj
  have hg : gK < W.heap.size := (hr.own.lt gK rfl).2
  rw [pairsL_at es m h] at hx
  injection hx with hx
  have k : ∀ (i q : Nat) (hi : i < es.length), q < 5 → W'.cell? ⟨gK, i * 5 + q, none⟩ = (es[i].cells)[q]? := fun i q hi hq => by
    rw [hb.cell (show (⟨gK, i * 5 + q, none⟩ : Addr).block < W.heap.size from hg), hr.own.cellAt (i * 5 + q) (by omega), flat_at es i q hi hq]
  have h0 : 2 * m < es.length := by omega
  have k1 := fun q hq => k (2 * m) q h0 hq
  have k2 := fun q hq => k (2 * m + 1) q h hq
  have e1 : es[2 * m] = x.1 := by rw [← hx]
  have e2 : es[2 * m + 1] = x.2 := by rw [← hx]
  rw [e1] at k1
  rw [e2] at k2
  exact ⟨k1 0 (by omega), k1 1 (by omega), k1 2 (by omega), k1 3 (by omega), k1 4 (by omega), k2 0 (by omega), k2 1 (by omega), k2 2 (by omega), k2 3 (by omega), k2 4 (by omega)⟩
theorem out_cells {w : World} {base g5 on c5 j kn : Nat} {D : List PEnt} {s : PEnt} (ho : w.ownsRow base 28 5 (.slice (some ⟨g5, 0, none⟩) on c5) on (flatP D)) (hs : D[j]? = some s) (hk : kn = 2 * j) (hon : on = 2 * D.length) :
    w.cell? ⟨g5, kn * 5, none⟩ = some (.int .i64 s.1.1.k) ∧ w.cell? ⟨g5, kn * 5 + 1, none⟩ = some (.int .i64 s.1.1.n) ∧ w.cell? ⟨g5, kn * 5 + 2, none⟩ = some (.int .i64 s.1.1.e) ∧ w.cell? ⟨g5, kn * 5 + 3, none⟩ = some (.string s.1.1.s) ∧ w.cell? ⟨g5, kn * 5 + 4, none⟩ = some (.slice s.1.2.1 s.1.1.kids.length s.1.2.2) := by
  obtain ⟨hj, hs⟩ := List.getElem?_eq_some_iff.1 hs
  have k : ∀ q, q < 5 → w.cell? ⟨g5, kn * 5 + q, none⟩ = (s.cells)[q]? := fun q hq => by
    rw [ho.cellAt (kn * 5 + q) (by omega), show kn * 5 + q = j * 10 + q by omega, flatP_at D j q hj (by omega), hs]
  exact ⟨k 0 (by omega), k 1 (by omega), k 2 (by omega), k 3 (by omega), k 4 (by omega)⟩
theorem news_cells {w : World} {base g5 on c5 : Nat} {D S1 S2 : List PEnt} (ho : w.ownsRow base 28 5 (.slice (some ⟨g5, 0, none⟩) on c5) on (flatP D)) (hs : S1 ++ S2 = D) (an : Nat) (han : an = 2 * S1.length) :
    (∀ W', Below w.heap.size w W' → ∀ j u, (flatP S1)[j]? = some u → W'.cell? ((⟨g5, 0, none⟩ : Addr).add j) = some u) ∧ (∀ W', Below w.heap.size w W' → ∀ j u, (flatP S2)[j]? = some u → W'.cell? ((⟨g5, an * 5, none⟩ : Addr).add j) = some u) := by
  have hg : g5 < w.heap.size := (ho.lt g5 rfl).2
  have hl := ho.1
  rw [flatP_len] at hl
  have hd : flatP D = flatP S1 ++ flatP S2 := by rw [← hs, flatP_app]
  have hl1 := flatP_len S1
  have hl2 := flatP_len S2
  have hD : D.length = S1.length + S2.length := by rw [← hs, List.length_append]
  refine ⟨fun W' hb j u hu => ?_, fun W' hb j u hu => ?_⟩
  · have hj : j < (flatP S1).length := (List.getElem?_eq_some_iff.1 hu).1
    rw [Addr.add_lit, Nat.zero_add, hb.cell (show (⟨g5, j, none⟩ : Addr).block < w.heap.size from hg), ho.cellAt j (by omega), hd, List.getElem?_append_left hj, hu]
  · have hj : j < (flatP S2).length := (List.getElem?_eq_some_iff.1 hu).1
    rw [Addr.add_lit, hb.cell (show (⟨g5, an * 5 + j, none⟩ : Addr).block < w.heap.size from hg), ho.cellAt (an * 5 + j) (by omega), hd, List.getElem?_append_right (by omega), show an * 5 + j - (flatP S1).length = j by omega, hu]
theorem ss_map {v : V} {w W w9 : World} {AK : Option Addr} {cK on g5 c5 : Nat} {es : List Ent} {G : List Nat} {D : List PEnt} (hf : mapFit v) (h8 : v.k = 8) (he : es.map (·.1) = v.kids.map V.srt)
    (hr : RowOf W (w.heap.size + 2) (.slice AK es.length cK) es G) (hS : w.heap.size + 2 ≤ W.heap.size) (hD : D.Perm (pairsL es)) (hp : D.Pairwise kle) (hn : on = 2 * D.length) (hs : ∀ c ∈ G, w9.heap[c]? = W.heap[c]?) (hsz : W.heap.size ≤ w9.heap.size)
    (ho : w9.ownsRow W.heap.size 28 5 (.slice (some ⟨g5, 0, none⟩) on c5) on (flatP D)) (hW : Below w.heap.size w w9) :
    Copied v.srt w (.returned (.agg #[.int .i64 v.k, .int .i64 v.n, .int .i64 v.e, .string v.s, .slice (some ⟨g5, 0, none⟩) on c5])) w9 := by
  obtain ⟨hl, hev, _⟩ := hf h8
  have hlen : es.length = v.kids.length := by have := congrArg List.length he; simpa using this
  have hL : (entsP D).length = on := by rw [entsP_len, hn]
  have ho' : w9.ownsRow w.heap.size 28 5 (.slice (some ⟨g5, 0, none⟩) on c5) on (flatP D) := own_up ho (fun g hg => by have := (ho.lt g hg).1; omega)
  rw [← hL] at ho'
  obtain ⟨G', hr'⟩ := sorted_row hr (by omega) hD hs hsz (fun c hc => by have := hr.low c hc; omega) ho' (fun g hg hG => by
    have h2 : W.heap.size ≤ g := (ho.lt g (by rw [hL] at hg; exact hg)).1
    have := hr.lt g hG
    omega)
  have e : v.srt = .mk v.k v.n v.e v.s ((entsP D).map (·.1)) := by rw [V.srt_eq, if_pos h8, (fit_keys hf h8 he).2 D hD hp]
  have h := sr_end e hr' (Nat.le_refl _) hW
  rw [hL] at h
  exact h
theorem nil_cells {W : World} {g : Nat} {S2 : List PEnt} (h : S2.length = 0) : ∀ j u, (flatP S2)[j]? = some u → W.cell? ((⟨g, 0, none⟩ : Addr).add j) = some u := by
  rw [List.eq_nil_of_length_eq_zero h]
  intro j u hu
  cases hu
theorem SoRel.next {es : List Ent} {W wq w3 : World} {m jn on N : Nat} {D S1 S2 : List PEnt} {x : PEnt} {v3 : Value} {xs : List Value} (HJ : jn = 2 * m ∧ on = 2 * m ∧ D.length = m ∧ m ≤ es.length / 2) (hlt : jn + 1 < es.length) (hes : es.length ≤ 900) (HPM : D.Perm ((pairsL es).take m)) (HSO : D.Pairwise kle)
    (HX : (pairsL es).take (m + 1) = (pairsL es).take m ++ [x]) (HSS : S1 ++ S2 = D) (HS2 : ∀ s ∈ S2, kc x s < 0) (HLE : ∀ s ∈ S1, kle s x) (hN : N = on + 2) (hown : w3.ownsRow wq.heap.size 28 5 v3 N xs) (hxs : xs = flatP (S1 ++ x :: S2)) (hQ : Below W.heap.size W wq) (hb : Below wq.heap.size wq w3) :
    SoRel es W v3 (.int .i64 ((jn : Int) + 2)) w3 := by
  have hz := hQ.size
  have ho2 : w3.ownsRow W.heap.size 28 5 v3 N xs := own_up hown (fun g hg => by have := (hown.lt g hg).1; omega)
  have hf : ∃ g c, v3 = .slice (some ⟨g, 0, none⟩) N c ∧ N ≤ c := by
    rcases ho2.2 with ⟨_, h0⟩ | ⟨g, c, cur, e, _, _, h3, _⟩
    · omega
    · exact ⟨g, c, e, h3⟩
  obtain ⟨g, c, rfl, hc⟩ := hf
  subst hN hxs
  subst HSS
  refine ⟨m + 1, jn + 2, on + 2, S1 ++ x :: S2, g, c, by go_num, rfl, by omega, by omega, hc, Lib.hid ⟨by omega, by omega, ?_, by omega⟩, Lib.hid ?_, Lib.hid (ins_sorted HSO HS2 HLE), Lib.hid ho2, Lib.hid (hQ.trans (hb.mono hz)), Lib.hid (by have := hb.size; omega)⟩
  · have := HJ.2.2.1
    simp only [List.length_append, List.length_cons] at this ⊢
    omega
  · rw [HX]
    exact List.perm_middle.trans ((HPM.cons x).trans (List.perm_append_singleton x _).symm)
theorem flatP_ones (d : List PEnt) : ∀ u ∈ flatP d, u.oneCell' = true := by
  intro u hu
  obtain ⟨x, _, hx⟩ := List.mem_flatMap.1 hu
  exact pent_ones x u hx
theorem pc_kept2 {wq w1 : World} (x : PEnt) (hg : ((wq.alloc (.cells #[] 28)).alloc (.cells (PEnt.cells x).toArray 28)).drew.grownBy w1 (some wq.heap.size)) : ∀ j u, (PEnt.cells x)[j]? = some u → w1.cell? ((⟨wq.heap.size + 1, 0, none⟩ : Addr).add j) = some u := by
  have h := Blk.new (wq.alloc (.cells #[] 28)) 28 (PEnt.cells x).toArray
  have hz : (wq.alloc (.cells #[] 28)).heap.size = wq.heap.size + 1 := by simp
  rw [hz] at h
  have h1 : Blk w1 (wq.heap.size + 1) 28 (PEnt.cells x).toArray := (hg.block _ h.lt (by simp)).trans h
  intro j u hu
  rw [Addr.add_lit, Nat.zero_add, h1.cell]
  simpa using hu
theorem pc_kept3 {wq w1 : World} (x : PEnt) (hg : ((wq.alloc (.cells (PEnt.cells x).toArray 28)).alloc (.cells #[] 28)).drew.grownBy w1 (some (wq.heap.size + 1))) : ∀ j u, (PEnt.cells x)[j]? = some u → w1.cell? ((⟨wq.heap.size, 0, none⟩ : Addr).add j) = some u := by
  have h := (Blk.new wq 28 (PEnt.cells x).toArray).alloc (.cells #[] 28)
  have h1 : Blk w1 wq.heap.size 28 (PEnt.cells x).toArray := (hg.block _ h.lt (by simp)).trans h
  intro j u hu
  rw [Addr.add_lit, Nat.zero_add, h1.cell]
  simpa using hu
set_option maxHeartbeats 4000000 in
theorem srtS_step (v : V) (hk : ∀ i (h : i < v.kids.length), SrtSaidS v.kids[i]) : SrtSaidS v := by
  intro A cap w hn hfit hat
  rw [V.nodes_eq] at hn
  have hl : v.kids.length ≤ 1048576 := by have := Vs.len_nodes v.kids; omega
  have HK := fun (i : Nat) (h : i < v.kids.length) (A' : Option Addr) (c : Nat) (w' : World) hf (hat' : Vs.at_ w' 0 w'.heap.size (v.kids[i]).kids A') => hk i h A' c w' (by have := Vs.nodes_get i h; omega) hf hat'
  have HC := Lib.hid HK
  have HA := Lib.hid hat
  have HF := Lib.hid hfit
  clear HK hk hat hfit
  unfold V.agg
  go_enter Tryd.func46, Tryd.ntmps46
  go_wp2_with fail
  go_loopw [3, 4] (fun o i wr => SsRel v A cap w o i wr) (fun _ i _ => v.kids.length - (intOf i).toNat)
  case atStart =>
    refine ⟨0, [], [], rfl, Nat.zero_le _, Lib.hid rfl, Lib.hid (RowOf.none ?_), Lib.hid (((Blk.new w _ _).alloc _).alloc _), Lib.hid ?_, Lib.hid ((((Below.refl _ w).alloc (Nat.le_refl _) _).alloc (by simp) _).alloc (by simp; omega) _), Lib.hid (by simp)⟩
    · have h := own_empty ((w.alloc (.cells #[.int .i64 v.k, .int .i64 v.n, .int .i64 v.e, .string v.s, .slice A v.kids.length cap] 28)).alloc (.cells #[.int .i64 0, .int .i64 0, .int .i64 0, .string ⟨#[]⟩, .slice none 0 0] 28)) 28 5
      simpa using h
    · have h := (Blk.new (w.alloc (.cells #[.int .i64 v.k, .int .i64 v.n, .int .i64 v.e, .string v.s, .slice A v.kids.length cap] 28)) 28 #[.int .i64 0, .int .i64 0, .int .i64 0, .string ⟨#[]⟩, .slice none 0 0]).alloc (.cells #[] 28)
      simpa using h
  case round =>
    obtain ⟨j, es, G, rfl, hj, HE, HR, HB0, HB1, HW, HS⟩ := hrel
    have HEL := Lib.hid (eq_len HE.out hj)
    obtain ⟨b0, b1, b2, b3, b4⟩ := HB0.out.five
    by_cases hlt : j < v.kids.length
    · have hlt2 : (j : Int) < (v.kids.length : Int) := by omega
      have HFK : (v.kids[j]).fitM := fit_get HF.out j hlt
      obtain ⟨b, off, A', cap', rfl, g1, g2, g3, ⟨c0, c1, c2, c3, c4⟩, g5⟩ := Vs.at_get j hlt (Vs.at_below HA.out HW.out (Nat.le_refl _))
      go_wp2_with fail
      refine (HC.out j hlt A' cap' _ HFK (Vs.at_more (Nat.le_refl _) HW.out.size _ _ g5)).mono ?_
      rintro e w1 ⟨A2, c2', F, rfl, hc2, hl2, hnd2, hF2, hb1⟩
      have HO := Lib.hid ((HR.out.below (Nat.le_refl _) hb1).own)
      have HN := Lib.hid (cells_new w1 (Ent.cells ((v.kids[j]).srt, A2, c2')).toArray 28)
      have HL2 := Lib.hid hl2
      have HND := Lib.hid hnd2
      have HF2 := Lib.hid hF2
      have HBB := Lib.hid hb1
      have hz1 : w.heap.size + 2 ≤ w1.heap.size := Nat.le_trans HS.out hb1.size
      have hsmall : es.length ≤ 1048576 := by have := HEL.out; omega
      clear c0 c1 c2 c3 c4 hl2 hnd2 hF2 hb1 b0 b1 b2 b3 b4
      unfold V.agg
      go_wp2_with (at_builtin; refine wpList_app2 rfl (.tmp 16) (.tmp 23) 26 rfl (w.heap.size + 2) 28 Tryd.underlying26 infoV rfl (by decide) rfl (HO.out.alloc _) (Nat.le_trans hz1 (by simp)) _ 1 1 (Ent.cells ((v.kids[j]).srt, A2, c2')) rfl rfl HN.out (ent_ones _) (by unfold maxLen; omega) (by omega) ?_; intro v' w' hown' hg' hv')
      go_roundw
      case rel => exact SsRel.next hlt HE.out HR.out HB0.out HB1.out HW.out HS.out hc2 HL2.out HND.out HF2.out HBB.out ((Below.refl _ w1).alloc (Nat.le_refl _) _) hown' hg' hv'
      case measure => simp [intOf]; omega
    · obtain rfl : j = v.kids.length := by omega
      have HE2 : Hid (es.map (·.1) = v.kids.map V.srt) := Lib.hid (by have := HE.out; rwa [List.take_length] at this)
      obtain ⟨AK, cK, rfl⟩ := own_slice HR.out.own
      have a0 := b0
      clear hlt hj
      by_cases h8 : v.k = 8
      · have he8 : (v.k == 8) = true := by simpa using h8
        have H8 := Lib.hid h8
        have HMF := Lib.hid (((V.fitM_eq v).1 HF.out).1)
        have hes9 : es.length ≤ 900 := by have := (HMF.out h8).1; have := HEL.out; omega
        have hev : es.length % 2 = 0 := by have := (HMF.out h8).2.1; have := HEL.out; omega
        have HEV := Lib.hid hev
        have HFK := Lib.hid (fit_keys HMF.out h8 HE2.out)
        clear h8 hev
        go_upto_region 7 with fail
        clear he8
        go_wp2_with fail
        obtain ⟨W, hW⟩ : ∃ W, W = wr := ⟨_, rfl⟩
        rw [← hW] at HB0 HB1 HW HS HR ⊢
        clear hW b0 b1 b2 b3 b4 a0
        go_loopw [5, 6, 7] (fun o i _ W' => SoRel es W o i W') (fun _ i _ _ => es.length + 2 - (intOf i).toNat)
        case atStart =>
          exact ⟨0, 0, 0, [], W.heap.size, 0, rfl, rfl, Nat.zero_le _, Nat.zero_le _, Nat.le_refl _, Lib.hid ⟨rfl, rfl, rfl, Nat.zero_le _⟩, Lib.hid (List.Perm.refl _), Lib.hid List.Pairwise.nil, Lib.hid (own_empty W 28 5), Lib.hid ((Below.refl _ _).alloc (Nat.le_refl _) _), Lib.hid (by simp)⟩
        case round =>
          obtain ⟨m, jn, on, D, g5, c5, rfl, rfl, hjn, hon, hoc, HJ, HPM, HSO, HO, HT, HTS⟩ := hrel
          by_cases hlt : jn < es.length
          · have hlt2 : (jn : Int) < (es.length : Int) := by omega
            have hj1 : jn + 1 < es.length := by have := HJ.out; have := HEV.out; omega
            have hj12 : (jn : Int) + 1 < (es.length : Int) := by omega
            have hmM : m < (pairsL es).length := by rw [pairsL_len]; have := HJ.out; have := HEV.out; omega
            obtain ⟨x, hx⟩ : ∃ x, (pairsL es)[m] = x := ⟨_, rfl⟩
            have HX := Lib.hid (show (pairsL es).take (m + 1) = (pairsL es).take m ++ [x] by rw [List.take_succ_eq_append_getElem hmM, hx])
            have HLX := Lib.hid (HFK.out.1 x (by rw [← hx]; exact List.getElem_mem _))
            have HLD := Lib.hid (fun s hs => HFK.out.1 s (List.mem_of_mem_take (HPM.out.subset hs)))
            obtain ⟨gK, cK', e1, _⟩ := HR.out.own.form (by omega)
            injection e1 with e1 e2 e3
            subst e1
            subst e3
            have HKD := Lib.hid (kid_cells (x := x) HR.out HJ.out.1 hj1 (by rw [← hx]; exact List.getElem?_eq_getElem hmM))
            have hwj : IntKind.i64.wrap ((jn : Int) + 1) = (jn : Int) + 1 := by rw [IntKind.wrap_i64]; omega
            have hwj2 : IntKind.i64.wrap ((jn : Int) + 2) = (jn : Int) + 2 := by rw [IntKind.wrap_i64]; omega
            have htn : ((jn : Int) + 1).toNat = jn + 1 := by omega
            have p0 : (0 : Int) ≤ (jn : Int) + 1 := by omega
            have p00 : (0 : Int) ≤ (jn : Int) := by omega
            obtain ⟨W1, hW1⟩ : ∃ W1, W1 = wr := ⟨_, rfl⟩
            rw [← hW1] at HO HT HTS ⊢
            clear hW1 hx hmM
            go_wp2_with fail
            go_loopw [7] (fun t W' => SeRel x D W1 t W') (fun t _ => (intOf t).toNat)
            case atStart => exact ⟨D, [], on, rfl, hon, Lib.hid (by have := HJ.out; omega), Lib.hid (by simp), Lib.hid (fun s hs => by cases hs), Lib.hid (Below.refl _ _)⟩
            case round =>
              obtain ⟨S1, S2, an, rfl, han, HAN, HSS, HS2, HQ0⟩ := hrel
              have HQ := Lib.hid (HT.out.trans (HQ0.out.mono HTS.out))
              rcases List.eq_nil_or_concat S1 with hS1 | ⟨S1', s, hS1⟩
              · have han0 : an = 0 := by have := HAN.out; rw [hS1] at this; simpa using this
                have qj : decide ((0 : Int) < (an : Int)) = false := decide_eq_false (by omega)
                have qjn : decide (0 < an) = false := decide_eq_false (by omega)
                have qjl : (an : Int) ≤ 0 := by omega
                have HLE : Hid (∀ s ∈ S1, kle s x) := Lib.hid (by rw [hS1]; intro s hs; cases hs)
                clear han0 hS1
                go_wp2_with fail
                go_quiet (fail)
                go_wp2_with fail
                generalize hwq : wr.drewN nq = wq
                have HQ1 : Hid (Below W1.heap.size W1 wq) := Lib.hid (by rw [← hwq]; exact below_drewN HQ0.out _)
                clear qj qjn qjl hwq
                by_cases hce : c5 = an
                · subst c5
                  have HOq := Lib.hid (own_below HO.out HQ1.out)
                  have HN1 := Lib.hid (news_cells HOq.out HSS.out an HAN.out).1
                  have HN3 := Lib.hid (fun (W' : World) (h : Below wq.heap.size wq W') => nil_cells (W := W') (g := g5) (S2 := S2) (by have h1 := HJ.out; have h2 := HAN.out; have h3 := congrArg List.length HSS.out; rw [List.length_append] at h3; omega))
                  have HQW := Lib.hid (HT.out.trans (HQ1.out.mono HTS.out))
                  have KE := Lib.hid (fun (W' : World) (h : Below wq.heap.size wq W') => HKD.out W' (HQW.out.trans (h.mono HQW.out.size)))
                  have hq0 : Below wq.heap.size wq wq := Below.refl _ _
                  obtain ⟨x0, x1, x2, x3, x4, y0, y1, y2, y3, y4⟩ := KE.out wq hq0
                  have hlS : S1.length + S2.length = D.length := by rw [← HSS.out, List.length_append]
                  have hao : an ≤ on := by have := HJ.out; have := HAN.out; omega
                  have hao2 : (an : Int) ≤ (on : Int) := by omega
                  have hac2 : (an : Int) ≤ (an : Int) := by omega
                  have hac : an ≤ an := by omega
                  have hl1 : (flatP S1).length = an * 5 := by rw [flatP_len]; have := HAN.out; omega
                  have hl3 : (flatP S2).length = (on - an) * 5 := by rw [flatP_len]; have := HAN.out; have := HJ.out; omega
                  have HL1 := Lib.hid hl1
                  have HL3 := Lib.hid hl3
                  have HL30 : Hid ((flatP S2).length = 0 * 5) := Lib.hid (by omega)
                  have E1 : Hid ((wq.alloc (.cells #[] 28)).drew.ownsRow wq.heap.size 28 5 (.slice (some ⟨wq.heap.size, 0, none⟩) 0 0) 0 []) := Lib.hid (own_empty wq 28 5)
                  have E2 : Hid (((wq.alloc (.cells #[] 28)).alloc (.cells (PEnt.cells x).toArray 28)).drew.ownsRow wq.heap.size 28 5 (.slice (some ⟨wq.heap.size, 0, none⟩) 0 0) 0 []) := Lib.hid ((own_empty wq 28 5).alloc _)
                  have E3 : Hid (((wq.alloc (.cells (PEnt.cells x).toArray 28)).alloc (.cells #[] 28)).drew.ownsRow wq.heap.size 28 5 (.slice (some ⟨wq.heap.size + 1, 0, none⟩) 0 0) 0 []) := Lib.hid (by have h := own_empty' (w := wq.alloc (.cells (PEnt.cells x).toArray 28)) (base := wq.heap.size) 28 5 (by simp); have h2 : (wq.alloc (.cells (PEnt.cells x).toArray 28)).heap.size = wq.heap.size + 1 := (by simp); rw [h2] at h; exact h)
                  have B1 : Hid (Below wq.heap.size wq (wq.alloc (.cells #[] 28)).drew) := Lib.hid (hq0.alloc (Nat.le_refl _) _).drew
                  have B1' : Hid (Below wq.heap.size wq (wq.alloc (.cells (PEnt.cells x).toArray 28)).drew) := Lib.hid (hq0.alloc (Nat.le_refl _) _).drew
                  have B2 : Hid (Below wq.heap.size wq ((wq.alloc (.cells #[] 28)).alloc (.cells (PEnt.cells x).toArray 28)).drew) := Lib.hid ((hq0.alloc (Nat.le_refl _) _).alloc (by simp) _).drew
                  have B3 : Hid (Below wq.heap.size wq ((wq.alloc (.cells (PEnt.cells x).toArray 28)).alloc (.cells #[] 28)).drew) := Lib.hid ((hq0.alloc (Nat.le_refl _) _).alloc (by simp) _).drew
                  clear hlS hl1 hl3
                  go_region_held3 (fun W' => W'.cell? ⟨gK, jn * 5, none⟩ = some (.int .i64 x.1.1.k) ∧ W'.cell? ⟨gK, jn * 5 + 1, none⟩ = some (.int .i64 x.1.1.n) ∧ W'.cell? ⟨gK, jn * 5 + 2, none⟩ = some (.int .i64 x.1.1.e) ∧ W'.cell? ⟨gK, jn * 5 + 3, none⟩ = some (.string x.1.1.s) ∧ W'.cell? ⟨gK, jn * 5 + 4, none⟩ = some (.slice x.1.2.1 x.1.1.kids.length x.1.2.2) ∧ W'.cell? ⟨gK, (jn + 1) * 5, none⟩ = some (.int .i64 x.2.1.k) ∧ W'.cell? ⟨gK, (jn + 1) * 5 + 1, none⟩ = some (.int .i64 x.2.1.n) ∧ W'.cell? ⟨gK, (jn + 1) * 5 + 2, none⟩ = some (.int .i64 x.2.1.e) ∧ W'.cell? ⟨gK, (jn + 1) * 5 + 3, none⟩ = some (.string x.2.1.s) ∧ W'.cell? ⟨gK, (jn + 1) * 5 + 4, none⟩ = some (.slice x.2.2.1 x.2.1.kids.length x.2.2.2))
                    (first | exact KE.out _ hb3 | exact KE.out _ hb2 | exact KE.out _ (hb1.alloc hb1.size _) | exact KE.out _ hb1 | exact KE.out _ B1.out | exact KE.out _ B1'.out | exact KE.out _ B2.out | exact KE.out _ B3.out | exact KE.out _ hq0.drew | exact KE.out _ hq0)
                    (first
                      | (refine step_app2 rfl (.tmp 54) (.tmp 57) 26 rfl wq.heap.size 28 Tryd.underlying26 infoV rfl (by decide) rfl E1.out (by simp; try omega) _ an _ (flatP S1) rfl HL1.out (HN1.out _ B1.out) (flatP_ones S1) (by unfold maxLen; omega) (by omega) ?_; intro v1 w1 hownw1 hgrw1; have hb1 := Below.grown B1.out hgrw1 (by simp) (fun k hk => (E1.out.lt k hk).1); have hpc := True.intro)
                      | (refine step_app2 rfl (.tmp 54) (.tmp 57) 26 rfl wq.heap.size 28 Tryd.underlying26 infoV rfl (by decide) rfl E2.out (by simp; try omega) _ an _ (flatP S1) rfl HL1.out (HN1.out _ B2.out) (flatP_ones S1) (by unfold maxLen; omega) (by omega) ?_; intro v1 w1 hownw1 hgrw1; have hb1 := Below.grown B2.out hgrw1 (by simp; omega) (fun k hk => (E2.out.lt k hk).1); have hpc := pc_kept2 x hgrw1)
                      | (refine step_app2 rfl (.tmp 54) (.tmp 57) 26 rfl wq.heap.size 28 Tryd.underlying26 infoV rfl (by decide) rfl E3.out (by simp; try omega) _ an _ (flatP S1) rfl HL1.out (HN1.out _ B3.out) (flatP_ones S1) (by unfold maxLen; omega) (by omega) ?_; intro v1 w1 hownw1 hgrw1; have hb1 := Below.grown B3.out hgrw1 (by simp; omega) (fun k hk => (E3.out.lt k hk).1); have hpc := pc_kept3 x hgrw1)
                      | (refine step_app2 rfl (.tmp 58) (.tmp 68) 26 rfl wq.heap.size 28 Tryd.underlying26 infoV rfl (by decide) rfl (hownw1.alloc _) (Nat.le_trans hb1.size (by simp)) _ 2 _ (PEnt.cells x) rfl rfl (cells_new w1 (PEnt.cells x).toArray 28) (pent_ones x) (by unfold maxLen; omega) (by omega) ?_; intro v2 w2 hownw2 hgrw2; have hb2 := Below.grown (hb1.alloc hb1.size _) hgrw2 (Nat.le_trans hb1.size (by simp)) (fun k hk => (hownw1.lt k hk).1))
                      | (refine step_app2 rfl (.tmp 58) (.tmp 68) 26 rfl wq.heap.size 28 Tryd.underlying26 infoV rfl (by decide) rfl hownw1 hb1.size _ 2 _ (PEnt.cells x) rfl rfl hpc (pent_ones x) (by unfold maxLen; omega) (by omega) ?_; intro v2 w2 hownw2 hgrw2; have hb2 := Below.grown hb1 hgrw2 hb1.size (fun k hk => (hownw1.lt k hk).1))
                      | (refine step_app2 rfl (.tmp 69) (.tmp 72) 26 rfl wq.heap.size 28 Tryd.underlying26 infoV rfl (by decide) rfl hownw2 hb2.size _ 0 _ (flatP S2) rfl HL30.out (HN3.out _ hb2) (flatP_ones S2) (by unfold maxLen; omega) (by omega) ?_; intro v3 w3 hownw3 hgrw3; have hb3 := Below.grown hb2 hgrw3 hb2.size (fun k hk => (hownw2.lt k hk).1)))
                  all_goals
                    clear x0 x1 x2 x3 x4 y0 y1 y2 y3 y4 hpc hownw1 hownw2 hgrw1 hgrw2 hgrw3 hb1 hb2 hac hac2 hao2 hq0 E1 E2 E3 B1 B1' B2 B3 HN1 HN3 HOq KE
                    go_wp2_with fail
                    go_roundw
                    case rel => exact SoRel.next HJ.out hj1 hes9 HPM.out HSO.out HX.out HSS.out HS2.out HLE.out (by have := HJ.out; omega) hownw3 (by simp [flatP_app, flatP_cons]) HQW.out hb3
                    case measure => simp [intOf]; omega
                · skip
                  have HOq := Lib.hid (own_below HO.out HQ1.out)
                  have HN1 := Lib.hid (news_cells HOq.out HSS.out an HAN.out).1
                  have HN3 := Lib.hid (news_cells HOq.out HSS.out an HAN.out).2
                  have HQW := Lib.hid (HT.out.trans (HQ1.out.mono HTS.out))
                  have KE := Lib.hid (fun (W' : World) (h : Below wq.heap.size wq W') => HKD.out W' (HQW.out.trans (h.mono HQW.out.size)))
                  have hq0 : Below wq.heap.size wq wq := Below.refl _ _
                  obtain ⟨x0, x1, x2, x3, x4, y0, y1, y2, y3, y4⟩ := KE.out wq hq0
                  have hlS : S1.length + S2.length = D.length := by rw [← HSS.out, List.length_append]
                  have hao : an ≤ on := by have := HJ.out; have := HAN.out; omega
                  have hao2 : (an : Int) ≤ (on : Int) := by omega
                  have hac2 : (an : Int) ≤ (c5 : Int) := by omega
                  have hac : an ≤ c5 := by omega
                  have hl1 : (flatP S1).length = an * 5 := by rw [flatP_len]; have := HAN.out; omega
                  have hl3 : (flatP S2).length = (on - an) * 5 := by rw [flatP_len]; have := HAN.out; have := HJ.out; omega
                  have HL1 := Lib.hid hl1
                  have HL3 := Lib.hid hl3
                  skip
                  have E1 : Hid ((wq.alloc (.cells #[] 28)).drew.ownsRow wq.heap.size 28 5 (.slice (some ⟨wq.heap.size, 0, none⟩) 0 0) 0 []) := Lib.hid (own_empty wq 28 5)
                  have E2 : Hid (((wq.alloc (.cells #[] 28)).alloc (.cells (PEnt.cells x).toArray 28)).drew.ownsRow wq.heap.size 28 5 (.slice (some ⟨wq.heap.size, 0, none⟩) 0 0) 0 []) := Lib.hid ((own_empty wq 28 5).alloc _)
                  have E3 : Hid (((wq.alloc (.cells (PEnt.cells x).toArray 28)).alloc (.cells #[] 28)).drew.ownsRow wq.heap.size 28 5 (.slice (some ⟨wq.heap.size + 1, 0, none⟩) 0 0) 0 []) := Lib.hid (by have h := own_empty' (w := wq.alloc (.cells (PEnt.cells x).toArray 28)) (base := wq.heap.size) 28 5 (by simp); have h2 : (wq.alloc (.cells (PEnt.cells x).toArray 28)).heap.size = wq.heap.size + 1 := (by simp); rw [h2] at h; exact h)
                  have B1 : Hid (Below wq.heap.size wq (wq.alloc (.cells #[] 28)).drew) := Lib.hid (hq0.alloc (Nat.le_refl _) _).drew
                  have B1' : Hid (Below wq.heap.size wq (wq.alloc (.cells (PEnt.cells x).toArray 28)).drew) := Lib.hid (hq0.alloc (Nat.le_refl _) _).drew
                  have B2 : Hid (Below wq.heap.size wq ((wq.alloc (.cells #[] 28)).alloc (.cells (PEnt.cells x).toArray 28)).drew) := Lib.hid ((hq0.alloc (Nat.le_refl _) _).alloc (by simp) _).drew
                  have B3 : Hid (Below wq.heap.size wq ((wq.alloc (.cells (PEnt.cells x).toArray 28)).alloc (.cells #[] 28)).drew) := Lib.hid ((hq0.alloc (Nat.le_refl _) _).alloc (by simp) _).drew
                  clear hlS hl1 hl3
                  go_region_held3 (fun W' => W'.cell? ⟨gK, jn * 5, none⟩ = some (.int .i64 x.1.1.k) ∧ W'.cell? ⟨gK, jn * 5 + 1, none⟩ = some (.int .i64 x.1.1.n) ∧ W'.cell? ⟨gK, jn * 5 + 2, none⟩ = some (.int .i64 x.1.1.e) ∧ W'.cell? ⟨gK, jn * 5 + 3, none⟩ = some (.string x.1.1.s) ∧ W'.cell? ⟨gK, jn * 5 + 4, none⟩ = some (.slice x.1.2.1 x.1.1.kids.length x.1.2.2) ∧ W'.cell? ⟨gK, (jn + 1) * 5, none⟩ = some (.int .i64 x.2.1.k) ∧ W'.cell? ⟨gK, (jn + 1) * 5 + 1, none⟩ = some (.int .i64 x.2.1.n) ∧ W'.cell? ⟨gK, (jn + 1) * 5 + 2, none⟩ = some (.int .i64 x.2.1.e) ∧ W'.cell? ⟨gK, (jn + 1) * 5 + 3, none⟩ = some (.string x.2.1.s) ∧ W'.cell? ⟨gK, (jn + 1) * 5 + 4, none⟩ = some (.slice x.2.2.1 x.2.1.kids.length x.2.2.2))
                    (first | exact KE.out _ hb3 | exact KE.out _ hb2 | exact KE.out _ (hb1.alloc hb1.size _) | exact KE.out _ hb1 | exact KE.out _ B1.out | exact KE.out _ B1'.out | exact KE.out _ B2.out | exact KE.out _ B3.out | exact KE.out _ hq0.drew | exact KE.out _ hq0)
                    (first
                      | (refine step_app2 rfl (.tmp 54) (.tmp 57) 26 rfl wq.heap.size 28 Tryd.underlying26 infoV rfl (by decide) rfl E1.out (by simp; try omega) _ an _ (flatP S1) rfl HL1.out (HN1.out _ B1.out) (flatP_ones S1) (by unfold maxLen; omega) (by omega) ?_; intro v1 w1 hownw1 hgrw1; have hb1 := Below.grown B1.out hgrw1 (by simp) (fun k hk => (E1.out.lt k hk).1); have hpc := True.intro)
                      | (refine step_app2 rfl (.tmp 54) (.tmp 57) 26 rfl wq.heap.size 28 Tryd.underlying26 infoV rfl (by decide) rfl E2.out (by simp; try omega) _ an _ (flatP S1) rfl HL1.out (HN1.out _ B2.out) (flatP_ones S1) (by unfold maxLen; omega) (by omega) ?_; intro v1 w1 hownw1 hgrw1; have hb1 := Below.grown B2.out hgrw1 (by simp; omega) (fun k hk => (E2.out.lt k hk).1); have hpc := pc_kept2 x hgrw1)
                      | (refine step_app2 rfl (.tmp 54) (.tmp 57) 26 rfl wq.heap.size 28 Tryd.underlying26 infoV rfl (by decide) rfl E3.out (by simp; try omega) _ an _ (flatP S1) rfl HL1.out (HN1.out _ B3.out) (flatP_ones S1) (by unfold maxLen; omega) (by omega) ?_; intro v1 w1 hownw1 hgrw1; have hb1 := Below.grown B3.out hgrw1 (by simp; omega) (fun k hk => (E3.out.lt k hk).1); have hpc := pc_kept3 x hgrw1)
                      | (refine step_app2 rfl (.tmp 58) (.tmp 68) 26 rfl wq.heap.size 28 Tryd.underlying26 infoV rfl (by decide) rfl (hownw1.alloc _) (Nat.le_trans hb1.size (by simp)) _ 2 _ (PEnt.cells x) rfl rfl (cells_new w1 (PEnt.cells x).toArray 28) (pent_ones x) (by unfold maxLen; omega) (by omega) ?_; intro v2 w2 hownw2 hgrw2; have hb2 := Below.grown (hb1.alloc hb1.size _) hgrw2 (Nat.le_trans hb1.size (by simp)) (fun k hk => (hownw1.lt k hk).1))
                      | (refine step_app2 rfl (.tmp 58) (.tmp 68) 26 rfl wq.heap.size 28 Tryd.underlying26 infoV rfl (by decide) rfl hownw1 hb1.size _ 2 _ (PEnt.cells x) rfl rfl hpc (pent_ones x) (by unfold maxLen; omega) (by omega) ?_; intro v2 w2 hownw2 hgrw2; have hb2 := Below.grown hb1 hgrw2 hb1.size (fun k hk => (hownw1.lt k hk).1))
                      | (refine step_app2 rfl (.tmp 69) (.tmp 72) 26 rfl wq.heap.size 28 Tryd.underlying26 infoV rfl (by decide) rfl hownw2 hb2.size _ (on - an) _ (flatP S2) rfl HL3.out (HN3.out _ hb2) (flatP_ones S2) (by unfold maxLen; omega) (by omega) ?_; intro v3 w3 hownw3 hgrw3; have hb3 := Below.grown hb2 hgrw3 hb2.size (fun k hk => (hownw2.lt k hk).1)))
                  all_goals
                    clear x0 x1 x2 x3 x4 y0 y1 y2 y3 y4 hpc hownw1 hownw2 hgrw1 hgrw2 hgrw3 hb1 hb2 hce hac hac2 hao2 hq0 E1 E2 E3 B1 B1' B2 B3 HN1 HN3 HOq KE
                    go_wp2_with fail
                    go_roundw
                    case rel => exact SoRel.next HJ.out hj1 hes9 HPM.out HSO.out HX.out HSS.out HS2.out HLE.out (by have := HJ.out; omega) hownw3 (by simp [flatP_app, flatP_cons]) HQW.out hb3
                    case measure => simp [intOf]; omega
              · rw [List.concat_eq_append] at hS1
                obtain ⟨kn, hkn⟩ : ∃ kn, an = kn + 2 := ⟨an - 2, by have := HAN.out; rw [hS1] at this; simp at this; omega⟩
                have HKN := Lib.hid hkn
                have HS1 := Lib.hid hS1
                have qj : decide ((0 : Int) < (an : Int)) = true := decide_eq_true (by omega)
                have qjn : decide (0 < an) = true := decide_eq_true (by omega)
                have hwk : IntKind.i64.wrap ((an : Int) - 2) = (kn : Int) := by rw [IntKind.wrap_i64]; omega
                have hkN : (kn : Int) < (on : Int) := by
                  have h1 := HJ.out
                  have h2 := congrArg List.length HSS.out
                  have h3 := HAN.out
                  rw [List.length_append] at h2
                  omega
                obtain ⟨x0, x1, x2, x3, x4, y0, y1, y2, y3, y4⟩ := HKD.out wr HQ.out
                obtain ⟨z0, z1, z2, z3, z4⟩ := out_cells (own_below HO.out HQ0.out) (j := S1'.length) (s := s) (kn := kn) (by rw [← HSS.out, hS1]; simp) (by have := HAN.out; rw [hS1] at this; simp at this; omega) (by have := HJ.out; omega)
                have HCM := Lib.hid (fun W' => specCmp s.1.1 x.1.1 s.1.2.1 x.1.2.1 s.1.2.2 x.1.2.2 W' (leaf_nodes (HLD.out s (by rw [← HSS.out, hS1]; simp))) (leaf_nodes HLX.out) (by rw [show s.1.1.kids = [] from HLD.out s (by rw [← HSS.out, hS1]; simp)]; simp only [Vs.at_]) (by rw [show x.1.1.kids = [] from HLX.out]; simp only [Vs.at_]))
                clear hkn hS1
                unfold V.agg at HCM
                go_upto_region 12 with fail
                go_still_tail 12, (by kernel_rfl)
                change wpList _ _ _ _ _ wr.drew
                go_wp2_with fail
                refine (HCM.out wr.drew).mono ?_
                rintro e wq ⟨rfl, hbq⟩
                have HQ1 : Hid (Below W1.heap.size W1 wq) := Lib.hid (HQ0.out.drew.trans (hbq.mono HQ0.out.size))
                clear hbq x0 x1 x2 x3 x4 y0 y1 y2 y3 y4 z0 z1 z2 z3 z4 HCM
                by_cases hc : 0 < V.cmp s.1.1 x.1.1
                · have qc : decide (0 < V.cmp s.1.1 x.1.1) = true := decide_eq_true hc
                  have HCC := Lib.hid hc
                  clear hc
                  go_wp2_with fail
                  go_roundw
                  case rel => exact ⟨S1', s :: S2, kn, by go_num, by have := HKN.out; omega, Lib.hid (by have := HAN.out; rw [HS1.out] at this; simp at this; have := HKN.out; omega), Lib.hid (by rw [← HSS.out, HS1.out]; simp), Lib.hid (by
                    intro t ht
                    rcases List.mem_cons.1 ht with rfl | ht
                    · have := kc_swap t x; have := HCC.out; unfold kc at *; omega
                    · exact HS2.out t ht), HQ1⟩
                  case measure => simp [intOf]; have := HKN.out; omega
                · have qc : decide (0 < V.cmp s.1.1 x.1.1) = false := decide_eq_false hc
                  have HLE : Hid (∀ t ∈ S1, kle t x) := Lib.hid (by
                    have h := HSO.out
                    rw [← HSS.out, List.pairwise_append, HS1.out] at h
                    rw [HS1.out]
                    exact last_le h.1 (by unfold kle kc; omega))
                  clear hc
                  go_wp2_with fail
                  clear qj qjn hwk hkN qc
                  by_cases hce : c5 = an
                  · subst c5
                    have HOq := Lib.hid (own_below HO.out HQ1.out)
                    have HN1 := Lib.hid (news_cells HOq.out HSS.out an HAN.out).1
                    have HN3 := Lib.hid (fun (W' : World) (h : Below wq.heap.size wq W') => nil_cells (W := W') (g := g5) (S2 := S2) (by have h1 := HJ.out; have h2 := HAN.out; have h3 := congrArg List.length HSS.out; rw [List.length_append] at h3; omega))
                    have HQW := Lib.hid (HT.out.trans (HQ1.out.mono HTS.out))
                    have KE := Lib.hid (fun (W' : World) (h : Below wq.heap.size wq W') => HKD.out W' (HQW.out.trans (h.mono HQW.out.size)))
                    have hq0 : Below wq.heap.size wq wq := Below.refl _ _
                    obtain ⟨x0, x1, x2, x3, x4, y0, y1, y2, y3, y4⟩ := KE.out wq hq0
                    have hlS : S1.length + S2.length = D.length := by rw [← HSS.out, List.length_append]
                    have hao : an ≤ on := by have := HJ.out; have := HAN.out; omega
                    have hao2 : (an : Int) ≤ (on : Int) := by omega
                    have hac2 : (an : Int) ≤ (an : Int) := by omega
                    have hac : an ≤ an := by omega
                    have hl1 : (flatP S1).length = an * 5 := by rw [flatP_len]; have := HAN.out; omega
                    have hl3 : (flatP S2).length = (on - an) * 5 := by rw [flatP_len]; have := HAN.out; have := HJ.out; omega
                    have HL1 := Lib.hid hl1
                    have HL3 := Lib.hid hl3
                    have HL30 : Hid ((flatP S2).length = 0 * 5) := Lib.hid (by omega)
                    have E1 : Hid ((wq.alloc (.cells #[] 28)).drew.ownsRow wq.heap.size 28 5 (.slice (some ⟨wq.heap.size, 0, none⟩) 0 0) 0 []) := Lib.hid (own_empty wq 28 5)
                    have E2 : Hid (((wq.alloc (.cells #[] 28)).alloc (.cells (PEnt.cells x).toArray 28)).drew.ownsRow wq.heap.size 28 5 (.slice (some ⟨wq.heap.size, 0, none⟩) 0 0) 0 []) := Lib.hid ((own_empty wq 28 5).alloc _)
                    have E3 : Hid (((wq.alloc (.cells (PEnt.cells x).toArray 28)).alloc (.cells #[] 28)).drew.ownsRow wq.heap.size 28 5 (.slice (some ⟨wq.heap.size + 1, 0, none⟩) 0 0) 0 []) := Lib.hid (by have h := own_empty' (w := wq.alloc (.cells (PEnt.cells x).toArray 28)) (base := wq.heap.size) 28 5 (by simp); have h2 : (wq.alloc (.cells (PEnt.cells x).toArray 28)).heap.size = wq.heap.size + 1 := (by simp); rw [h2] at h; exact h)
                    have B1 : Hid (Below wq.heap.size wq (wq.alloc (.cells #[] 28)).drew) := Lib.hid (hq0.alloc (Nat.le_refl _) _).drew
                    have B1' : Hid (Below wq.heap.size wq (wq.alloc (.cells (PEnt.cells x).toArray 28)).drew) := Lib.hid (hq0.alloc (Nat.le_refl _) _).drew
                    have B2 : Hid (Below wq.heap.size wq ((wq.alloc (.cells #[] 28)).alloc (.cells (PEnt.cells x).toArray 28)).drew) := Lib.hid ((hq0.alloc (Nat.le_refl _) _).alloc (by simp) _).drew
                    have B3 : Hid (Below wq.heap.size wq ((wq.alloc (.cells (PEnt.cells x).toArray 28)).alloc (.cells #[] 28)).drew) := Lib.hid ((hq0.alloc (Nat.le_refl _) _).alloc (by simp) _).drew
                    clear hlS hl1 hl3
                    go_region_held3 (fun W' => W'.cell? ⟨gK, jn * 5, none⟩ = some (.int .i64 x.1.1.k) ∧ W'.cell? ⟨gK, jn * 5 + 1, none⟩ = some (.int .i64 x.1.1.n) ∧ W'.cell? ⟨gK, jn * 5 + 2, none⟩ = some (.int .i64 x.1.1.e) ∧ W'.cell? ⟨gK, jn * 5 + 3, none⟩ = some (.string x.1.1.s) ∧ W'.cell? ⟨gK, jn * 5 + 4, none⟩ = some (.slice x.1.2.1 x.1.1.kids.length x.1.2.2) ∧ W'.cell? ⟨gK, (jn + 1) * 5, none⟩ = some (.int .i64 x.2.1.k) ∧ W'.cell? ⟨gK, (jn + 1) * 5 + 1, none⟩ = some (.int .i64 x.2.1.n) ∧ W'.cell? ⟨gK, (jn + 1) * 5 + 2, none⟩ = some (.int .i64 x.2.1.e) ∧ W'.cell? ⟨gK, (jn + 1) * 5 + 3, none⟩ = some (.string x.2.1.s) ∧ W'.cell? ⟨gK, (jn + 1) * 5 + 4, none⟩ = some (.slice x.2.2.1 x.2.1.kids.length x.2.2.2))
                      (first | exact KE.out _ hb3 | exact KE.out _ hb2 | exact KE.out _ (hb1.alloc hb1.size _) | exact KE.out _ hb1 | exact KE.out _ B1.out | exact KE.out _ B1'.out | exact KE.out _ B2.out | exact KE.out _ B3.out | exact KE.out _ hq0.drew | exact KE.out _ hq0)
                      (first
                        | (refine step_app2 rfl (.tmp 54) (.tmp 57) 26 rfl wq.heap.size 28 Tryd.underlying26 infoV rfl (by decide) rfl E1.out (by simp; try omega) _ an _ (flatP S1) rfl HL1.out (HN1.out _ B1.out) (flatP_ones S1) (by unfold maxLen; omega) (by omega) ?_; intro v1 w1 hownw1 hgrw1; have hb1 := Below.grown B1.out hgrw1 (by simp) (fun k hk => (E1.out.lt k hk).1); have hpc := True.intro)
                        | (refine step_app2 rfl (.tmp 54) (.tmp 57) 26 rfl wq.heap.size 28 Tryd.underlying26 infoV rfl (by decide) rfl E2.out (by simp; try omega) _ an _ (flatP S1) rfl HL1.out (HN1.out _ B2.out) (flatP_ones S1) (by unfold maxLen; omega) (by omega) ?_; intro v1 w1 hownw1 hgrw1; have hb1 := Below.grown B2.out hgrw1 (by simp; omega) (fun k hk => (E2.out.lt k hk).1); have hpc := pc_kept2 x hgrw1)
                        | (refine step_app2 rfl (.tmp 54) (.tmp 57) 26 rfl wq.heap.size 28 Tryd.underlying26 infoV rfl (by decide) rfl E3.out (by simp; try omega) _ an _ (flatP S1) rfl HL1.out (HN1.out _ B3.out) (flatP_ones S1) (by unfold maxLen; omega) (by omega) ?_; intro v1 w1 hownw1 hgrw1; have hb1 := Below.grown B3.out hgrw1 (by simp; omega) (fun k hk => (E3.out.lt k hk).1); have hpc := pc_kept3 x hgrw1)
                        | (refine step_app2 rfl (.tmp 58) (.tmp 68) 26 rfl wq.heap.size 28 Tryd.underlying26 infoV rfl (by decide) rfl (hownw1.alloc _) (Nat.le_trans hb1.size (by simp)) _ 2 _ (PEnt.cells x) rfl rfl (cells_new w1 (PEnt.cells x).toArray 28) (pent_ones x) (by unfold maxLen; omega) (by omega) ?_; intro v2 w2 hownw2 hgrw2; have hb2 := Below.grown (hb1.alloc hb1.size _) hgrw2 (Nat.le_trans hb1.size (by simp)) (fun k hk => (hownw1.lt k hk).1))
                        | (refine step_app2 rfl (.tmp 58) (.tmp 68) 26 rfl wq.heap.size 28 Tryd.underlying26 infoV rfl (by decide) rfl hownw1 hb1.size _ 2 _ (PEnt.cells x) rfl rfl hpc (pent_ones x) (by unfold maxLen; omega) (by omega) ?_; intro v2 w2 hownw2 hgrw2; have hb2 := Below.grown hb1 hgrw2 hb1.size (fun k hk => (hownw1.lt k hk).1))
                        | (refine step_app2 rfl (.tmp 69) (.tmp 72) 26 rfl wq.heap.size 28 Tryd.underlying26 infoV rfl (by decide) rfl hownw2 hb2.size _ 0 _ (flatP S2) rfl HL30.out (HN3.out _ hb2) (flatP_ones S2) (by unfold maxLen; omega) (by omega) ?_; intro v3 w3 hownw3 hgrw3; have hb3 := Below.grown hb2 hgrw3 hb2.size (fun k hk => (hownw2.lt k hk).1)))
                    all_goals
                      clear x0 x1 x2 x3 x4 y0 y1 y2 y3 y4 hpc hownw1 hownw2 hgrw1 hgrw2 hgrw3 hb1 hb2 hac hac2 hao2 hq0 E1 E2 E3 B1 B1' B2 B3 HN1 HN3 HOq KE
                      go_wp2_with fail
                      go_roundw
                      case rel => exact SoRel.next HJ.out hj1 hes9 HPM.out HSO.out HX.out HSS.out HS2.out HLE.out (by have := HJ.out; omega) hownw3 (by simp [flatP_app, flatP_cons]) HQW.out hb3
                      case measure => simp [intOf]; omega
                  · skip
                    have HOq := Lib.hid (own_below HO.out HQ1.out)
                    have HN1 := Lib.hid (news_cells HOq.out HSS.out an HAN.out).1
                    have HN3 := Lib.hid (news_cells HOq.out HSS.out an HAN.out).2
                    have HQW := Lib.hid (HT.out.trans (HQ1.out.mono HTS.out))
                    have KE := Lib.hid (fun (W' : World) (h : Below wq.heap.size wq W') => HKD.out W' (HQW.out.trans (h.mono HQW.out.size)))
                    have hq0 : Below wq.heap.size wq wq := Below.refl _ _
                    obtain ⟨x0, x1, x2, x3, x4, y0, y1, y2, y3, y4⟩ := KE.out wq hq0
                    have hlS : S1.length + S2.length = D.length := by rw [← HSS.out, List.length_append]
                    have hao : an ≤ on := by have := HJ.out; have := HAN.out; omega
                    have hao2 : (an : Int) ≤ (on : Int) := by omega
                    have hac2 : (an : Int) ≤ (c5 : Int) := by omega
                    have hac : an ≤ c5 := by omega
                    have hl1 : (flatP S1).length = an * 5 := by rw [flatP_len]; have := HAN.out; omega
                    have hl3 : (flatP S2).length = (on - an) * 5 := by rw [flatP_len]; have := HAN.out; have := HJ.out; omega
                    have HL1 := Lib.hid hl1
                    have HL3 := Lib.hid hl3
                    skip
                    have E1 : Hid ((wq.alloc (.cells #[] 28)).drew.ownsRow wq.heap.size 28 5 (.slice (some ⟨wq.heap.size, 0, none⟩) 0 0) 0 []) := Lib.hid (own_empty wq 28 5)
                    have E2 : Hid (((wq.alloc (.cells #[] 28)).alloc (.cells (PEnt.cells x).toArray 28)).drew.ownsRow wq.heap.size 28 5 (.slice (some ⟨wq.heap.size, 0, none⟩) 0 0) 0 []) := Lib.hid ((own_empty wq 28 5).alloc _)
                    have E3 : Hid (((wq.alloc (.cells (PEnt.cells x).toArray 28)).alloc (.cells #[] 28)).drew.ownsRow wq.heap.size 28 5 (.slice (some ⟨wq.heap.size + 1, 0, none⟩) 0 0) 0 []) := Lib.hid (by have h := own_empty' (w := wq.alloc (.cells (PEnt.cells x).toArray 28)) (base := wq.heap.size) 28 5 (by simp); have h2 : (wq.alloc (.cells (PEnt.cells x).toArray 28)).heap.size = wq.heap.size + 1 := (by simp); rw [h2] at h; exact h)
                    have B1 : Hid (Below wq.heap.size wq (wq.alloc (.cells #[] 28)).drew) := Lib.hid (hq0.alloc (Nat.le_refl _) _).drew
                    have B1' : Hid (Below wq.heap.size wq (wq.alloc (.cells (PEnt.cells x).toArray 28)).drew) := Lib.hid (hq0.alloc (Nat.le_refl _) _).drew
                    have B2 : Hid (Below wq.heap.size wq ((wq.alloc (.cells #[] 28)).alloc (.cells (PEnt.cells x).toArray 28)).drew) := Lib.hid ((hq0.alloc (Nat.le_refl _) _).alloc (by simp) _).drew
                    have B3 : Hid (Below wq.heap.size wq ((wq.alloc (.cells (PEnt.cells x).toArray 28)).alloc (.cells #[] 28)).drew) := Lib.hid ((hq0.alloc (Nat.le_refl _) _).alloc (by simp) _).drew
                    clear hlS hl1 hl3
                    go_region_held3 (fun W' => W'.cell? ⟨gK, jn * 5, none⟩ = some (.int .i64 x.1.1.k) ∧ W'.cell? ⟨gK, jn * 5 + 1, none⟩ = some (.int .i64 x.1.1.n) ∧ W'.cell? ⟨gK, jn * 5 + 2, none⟩ = some (.int .i64 x.1.1.e) ∧ W'.cell? ⟨gK, jn * 5 + 3, none⟩ = some (.string x.1.1.s) ∧ W'.cell? ⟨gK, jn * 5 + 4, none⟩ = some (.slice x.1.2.1 x.1.1.kids.length x.1.2.2) ∧ W'.cell? ⟨gK, (jn + 1) * 5, none⟩ = some (.int .i64 x.2.1.k) ∧ W'.cell? ⟨gK, (jn + 1) * 5 + 1, none⟩ = some (.int .i64 x.2.1.n) ∧ W'.cell? ⟨gK, (jn + 1) * 5 + 2, none⟩ = some (.int .i64 x.2.1.e) ∧ W'.cell? ⟨gK, (jn + 1) * 5 + 3, none⟩ = some (.string x.2.1.s) ∧ W'.cell? ⟨gK, (jn + 1) * 5 + 4, none⟩ = some (.slice x.2.2.1 x.2.1.kids.length x.2.2.2))
                      (first | exact KE.out _ hb3 | exact KE.out _ hb2 | exact KE.out _ (hb1.alloc hb1.size _) | exact KE.out _ hb1 | exact KE.out _ B1.out | exact KE.out _ B1'.out | exact KE.out _ B2.out | exact KE.out _ B3.out | exact KE.out _ hq0.drew | exact KE.out _ hq0)
                      (first
                        | (refine step_app2 rfl (.tmp 54) (.tmp 57) 26 rfl wq.heap.size 28 Tryd.underlying26 infoV rfl (by decide) rfl E1.out (by simp; try omega) _ an _ (flatP S1) rfl HL1.out (HN1.out _ B1.out) (flatP_ones S1) (by unfold maxLen; omega) (by omega) ?_; intro v1 w1 hownw1 hgrw1; have hb1 := Below.grown B1.out hgrw1 (by simp) (fun k hk => (E1.out.lt k hk).1); have hpc := True.intro)
                        | (refine step_app2 rfl (.tmp 54) (.tmp 57) 26 rfl wq.heap.size 28 Tryd.underlying26 infoV rfl (by decide) rfl E2.out (by simp; try omega) _ an _ (flatP S1) rfl HL1.out (HN1.out _ B2.out) (flatP_ones S1) (by unfold maxLen; omega) (by omega) ?_; intro v1 w1 hownw1 hgrw1; have hb1 := Below.grown B2.out hgrw1 (by simp; omega) (fun k hk => (E2.out.lt k hk).1); have hpc := pc_kept2 x hgrw1)
                        | (refine step_app2 rfl (.tmp 54) (.tmp 57) 26 rfl wq.heap.size 28 Tryd.underlying26 infoV rfl (by decide) rfl E3.out (by simp; try omega) _ an _ (flatP S1) rfl HL1.out (HN1.out _ B3.out) (flatP_ones S1) (by unfold maxLen; omega) (by omega) ?_; intro v1 w1 hownw1 hgrw1; have hb1 := Below.grown B3.out hgrw1 (by simp; omega) (fun k hk => (E3.out.lt k hk).1); have hpc := pc_kept3 x hgrw1)
                        | (refine step_app2 rfl (.tmp 58) (.tmp 68) 26 rfl wq.heap.size 28 Tryd.underlying26 infoV rfl (by decide) rfl (hownw1.alloc _) (Nat.le_trans hb1.size (by simp)) _ 2 _ (PEnt.cells x) rfl rfl (cells_new w1 (PEnt.cells x).toArray 28) (pent_ones x) (by unfold maxLen; omega) (by omega) ?_; intro v2 w2 hownw2 hgrw2; have hb2 := Below.grown (hb1.alloc hb1.size _) hgrw2 (Nat.le_trans hb1.size (by simp)) (fun k hk => (hownw1.lt k hk).1))
                        | (refine step_app2 rfl (.tmp 58) (.tmp 68) 26 rfl wq.heap.size 28 Tryd.underlying26 infoV rfl (by decide) rfl hownw1 hb1.size _ 2 _ (PEnt.cells x) rfl rfl hpc (pent_ones x) (by unfold maxLen; omega) (by omega) ?_; intro v2 w2 hownw2 hgrw2; have hb2 := Below.grown hb1 hgrw2 hb1.size (fun k hk => (hownw1.lt k hk).1))
                        | (refine step_app2 rfl (.tmp 69) (.tmp 72) 26 rfl wq.heap.size 28 Tryd.underlying26 infoV rfl (by decide) rfl hownw2 hb2.size _ (on - an) _ (flatP S2) rfl HL3.out (HN3.out _ hb2) (flatP_ones S2) (by unfold maxLen; omega) (by omega) ?_; intro v3 w3 hownw3 hgrw3; have hb3 := Below.grown hb2 hgrw3 hb2.size (fun k hk => (hownw2.lt k hk).1)))
                    all_goals
                      clear x0 x1 x2 x3 x4 y0 y1 y2 y3 y4 hpc hownw1 hownw2 hgrw1 hgrw2 hgrw3 hb1 hb2 hce hac hac2 hao2 hq0 E1 E2 E3 B1 B1' B2 B3 HN1 HN3 HOq KE
                      go_wp2_with fail
                      go_roundw
                      case rel => exact SoRel.next HJ.out hj1 hes9 HPM.out HSO.out HX.out HSS.out HS2.out HLE.out (by have := HJ.out; omega) hownw3 (by simp [flatP_app, flatP_cons]) HQW.out hb3
                      case measure => simp [intOf]; omega
          · have hge : (es.length : Int) ≤ (jn : Int) := by omega
            have HDP : Hid (D.Perm (pairsL es)) := Lib.hid (by
              have h := HPM.out
              rwa [show m = (pairsL es).length by rw [pairsL_len]; have := HJ.out; have := HEV.out; omega, List.take_length] at h)
            have HBr0 := Lib.hid (HB0.out.below HT.out (by have := HS.out; omega))
            have HBr1 := Lib.hid (HB1.out.below HT.out (by have := HS.out; omega))
            obtain ⟨b0, b1, b2, b3, b4⟩ := HBr0.out.five
            have f4 := HBr0.out.frozen 4
            obtain ⟨p0, p1, p2, p3, p4⟩ := HBr1.out.five
            have k0 := HBr1.out.frozen 0
            have k1 := HBr1.out.frozen 1
            have k2 := HBr1.out.frozen 2
            have k3 := HBr1.out.frozen 3
            have k4 := HBr1.out.frozen 4
            have hz0 : w.heap.size + 2 ≤ wr.heap.size := by have := HS.out; have := HTS.out; omega
            go_wp2_with fail
            have G1 := Gr.set w.heap.size wr 4 (.slice (some ⟨g5, 0, none⟩) on c5)
            have HB18 := Lib.hid ((G1.block _ HBr1.out.lt (fun e => by injection e with e; omega)).trans HBr1.out)
            have HO8 := Lib.hid (World.ownsRow.kept HO.out G1 (.inr (fun e => by have := (HO.out.lt _ e).1; have := HS.out; omega)))
            have hS := HS.out
            have hTS := HTS.out
            have HT8 := Lib.hid (show SameIn G W (wr.setCell ⟨w.heap.size, 4, none⟩ (.slice (some ⟨g5, 0, none⟩) on c5)) from ⟨by simp; omega, fun c hc => by
              have h1 := HR.out.low c hc
              have h2 := HR.out.lt c hc
              exact (G1.block c (by omega) (fun e => by injection e with e; omega)).trans (HT.out.block c h2)⟩)
            have HW8 := Lib.hid ((HW.out.trans (HT.out.mono HW.out.size)).grown G1 (by omega) (fun k hk => by injection hk with hk; omega))
            have hz8 : W.heap.size ≤ (wr.setCell ⟨w.heap.size, 4, none⟩ (.slice (some ⟨g5, 0, none⟩) on c5)).heap.size := by simp; omega
            generalize wr.setCell ⟨w.heap.size, 4, none⟩ (.slice (some ⟨g5, 0, none⟩) on c5) = w8 at HB18 HO8 HT8 HW8 hz8 ⊢
            clear G1 f4 p0 p1 p2 p3 p4 k0 k1 k2 k3 k4 b0 b1 b2 b3 b4
            have R : Blk (((((w8.setCell ⟨w.heap.size + 1, 0, none⟩ (.int .i64 v.k)).setCell ⟨w.heap.size + 1, 1, none⟩ (.int .i64 v.n)).setCell ⟨w.heap.size + 1, 2, none⟩ (.int .i64 v.e)).setCell ⟨w.heap.size + 1, 3, none⟩ (.string v.s)).setCell ⟨w.heap.size + 1, 4, none⟩ (.slice (some ⟨g5, 0, none⟩) on c5)) (w.heap.size + 1) 28 #[.int .i64 v.k, .int .i64 v.n, .int .i64 v.e, .string v.s, .slice (some ⟨g5, 0, none⟩) on c5] := by
              have h := (((((show Blk w8 (w.heap.size + 1) 28 #[.int .i64 0, .int .i64 0, .int .i64 0, .string ⟨#[]⟩, .slice none 0 0] from HB18.out).set 0 (.int .i64 v.k)).set 1 (.int .i64 v.n)).set 2 (.int .i64 v.e)).set 3 (.string v.s)).set 4 (.slice (some ⟨g5, 0, none⟩) on c5)
              simpa using h
            have RG : Gr (w.heap.size + 1) w8 (((((w8.setCell ⟨w.heap.size + 1, 0, none⟩ (.int .i64 v.k)).setCell ⟨w.heap.size + 1, 1, none⟩ (.int .i64 v.n)).setCell ⟨w.heap.size + 1, 2, none⟩ (.int .i64 v.e)).setCell ⟨w.heap.size + 1, 3, none⟩ (.string v.s)).setCell ⟨w.heap.size + 1, 4, none⟩ (.slice (some ⟨g5, 0, none⟩) on c5)) := by
              repeat (first | exact Gr.refl _ _ | (refine Gr.trans ?_ (Gr.set _ _ _ _)))
            generalize ((((w8.setCell ⟨w.heap.size + 1, 0, none⟩ (.int .i64 v.k)).setCell ⟨w.heap.size + 1, 1, none⟩ (.int .i64 v.n)).setCell ⟨w.heap.size + 1, 2, none⟩ (.int .i64 v.e)).setCell ⟨w.heap.size + 1, 3, none⟩ (.string v.s)).setCell ⟨w.heap.size + 1, 4, none⟩ (.slice (some ⟨g5, 0, none⟩) on c5) = w9 at R RG ⊢
            obtain ⟨c0, c1, c2, c3, c4⟩ := R.five
            refine bodyPost_ret (v := .agg #[.int .i64 v.k, .int .i64 v.n, .int .i64 v.e, .string v.s, .slice (some ⟨g5, 0, none⟩) on c5]) (by simp [results, Tryd.results46, go_sem, c0, c1, c2, c3, c4]) rfl (ss_map HMF.out H8.out HE2.out HR.out hS HDP.out HSO.out (by have := HJ.out; omega) (fun c hc => ?_) (by have := RG.size; omega) (World.ownsRow.kept HO8.out RG (.inr (fun e => by have := (HO8.out.lt _ e).1; omega))) (HW8.out.grown RG (by omega) (fun k hk => by injection hk with hk; omega)))
            have h1 := HR.out.low c hc
            have h2 := HR.out.lt c hc
            exact (RG.block c (by omega) (fun e => by injection e with e; omega)).trans (HT8.out.2 c hc)
      · have he8 : (v.k == 8) = false := by simpa using h8
        have H8 := Lib.hid h8
        clear h8
        have f4 := HB0.out.frozen 4
        obtain ⟨p0, p1, p2, p3, p4⟩ := HB1.out.five
        have k0 := HB1.out.frozen 0
        have k1 := HB1.out.frozen 1
        have k2 := HB1.out.frozen 2
        have k3 := HB1.out.frozen 3
        have k4 := HB1.out.frozen 4
        go_wp2_with fail
        have G1 := Gr.set w.heap.size wr 4 (.slice AK es.length cK)
        have HB18 := Lib.hid ((G1.block _ HB1.out.lt (fun e => by injection e with e; omega)).trans HB1.out)
        have HR8 := Lib.hid (HR.out.gr G1 (by omega))
        have HW8 := Lib.hid (HW.out.grown G1 (by have := HS.out; omega) (fun k hk => by injection hk with hk; omega))
        have hz8 : w.heap.size + 2 ≤ (wr.setCell ⟨w.heap.size, 4, none⟩ (.slice AK es.length cK)).heap.size := by have := HS.out; simp; omega
        generalize wr.setCell ⟨w.heap.size, 4, none⟩ (.slice AK es.length cK) = w8 at HB18 HR8 HW8 hz8 ⊢
        clear G1 f4 p0 p1 p2 p3 p4 k0 k1 k2 k3 k4 b0 b1 b2 b3 b4 a0
        have R : Blk (((((w8.setCell ⟨w.heap.size + 1, 0, none⟩ (.int .i64 v.k)).setCell ⟨w.heap.size + 1, 1, none⟩ (.int .i64 v.n)).setCell ⟨w.heap.size + 1, 2, none⟩ (.int .i64 v.e)).setCell ⟨w.heap.size + 1, 3, none⟩ (.string v.s)).setCell ⟨w.heap.size + 1, 4, none⟩ (.slice AK es.length cK)) (w.heap.size + 1) 28 #[.int .i64 v.k, .int .i64 v.n, .int .i64 v.e, .string v.s, .slice AK es.length cK] := by
          have h := (((((show Blk w8 (w.heap.size + 1) 28 #[.int .i64 0, .int .i64 0, .int .i64 0, .string ⟨#[]⟩, .slice none 0 0] from HB18.out).set 0 (.int .i64 v.k)).set 1 (.int .i64 v.n)).set 2 (.int .i64 v.e)).set 3 (.string v.s)).set 4 (.slice AK es.length cK)
          simpa using h
        have RG : Gr (w.heap.size + 1) w8 (((((w8.setCell ⟨w.heap.size + 1, 0, none⟩ (.int .i64 v.k)).setCell ⟨w.heap.size + 1, 1, none⟩ (.int .i64 v.n)).setCell ⟨w.heap.size + 1, 2, none⟩ (.int .i64 v.e)).setCell ⟨w.heap.size + 1, 3, none⟩ (.string v.s)).setCell ⟨w.heap.size + 1, 4, none⟩ (.slice AK es.length cK)) := by
          repeat (first | exact Gr.refl _ _ | (refine Gr.trans ?_ (Gr.set _ _ _ _)))
        generalize ((((w8.setCell ⟨w.heap.size + 1, 0, none⟩ (.int .i64 v.k)).setCell ⟨w.heap.size + 1, 1, none⟩ (.int .i64 v.n)).setCell ⟨w.heap.size + 1, 2, none⟩ (.int .i64 v.e)).setCell ⟨w.heap.size + 1, 3, none⟩ (.string v.s)).setCell ⟨w.heap.size + 1, 4, none⟩ (.slice AK es.length cK) = w9 at R RG ⊢
        obtain ⟨c0, c1, c2, c3, c4⟩ := R.five
        refine bodyPost_ret (v := .agg #[.int .i64 v.k, .int .i64 v.n, .int .i64 v.e, .string v.s, .slice AK es.length cK]) (by simp [results, Tryd.results46, go_sem, c0, c1, c2, c3, c4]) rfl (sr_end (by rw [V.srt_eq, if_neg H8.out, HE2.out]) (HR8.out.gr RG (by omega)) (by omega) (HW8.out.grown RG (by omega) (fun k hk => by injection hk with hk; omega)))
theorem specSort0 : ∀ v, SrtSaidS v := V.all srtS_step
end Go.Proofs.YtcjamnfboifjeaaDoor

/-
  The reference's tests of a value: a number times ten, keys of pairs.
-/
namespace Go.Proofs.YtcjamnfboifjeaaDoor
open Go.RowKit
set_option linter.unusedVariables false
set_option maxRecDepth 100000

theorem tens_step (n : Int) (k : Nat) (h : inR (n * 10)) : tens n (k + 1) = tens (n * 10) k := by
  conv => lhs; unfold tens
  rw [if_pos h]
theorem tens_stop (n : Int) (k : Nat) (h : ¬ inR (n * 10)) : tens n (k + 1) = none := by
  unfold tens
  rw [if_neg h]

theorem wrap_tdiv (y : Int) : wrap64 (Int.tdiv (wrap64 y) 10) = Int.tdiv (wrap64 y) 10 := by
  have h1 := wrap64_eq y
  have h2 := Int.tmod_add_mul_tdiv (wrap64 y) 10
  have h3 : -10 < Int.tmod (wrap64 y) 10 ∧ Int.tmod (wrap64 y) 10 < 10 := by
    constructor
    · have := Int.lt_tmod_of_pos (wrap64 y) (show (0 : Int) < 10 by omega); omega
    · exact Int.tmod_lt_of_pos _ (by omega)
  rw [wrap64_eq (Int.tdiv _ _)]
  omega
theorem inR_div {x : Int} (h : inR (x * 10)) : wrap64 (x * 10) = x * 10 ∧ Int.tdiv (x * 10) 10 = x := by
  unfold inR at h
  exact ⟨by rw [wrap64_eq]; omega, Int.mul_tdiv_cancel _ (by omega)⟩

set_option maxHeartbeats 1000000 in
theorem specWhole_pos (n : Int) (m : Nat) (w : World) (hn : inR n) (hm : 0 < m) (hm2 : m ≤ 20) :
    Calls Tryd.prog 101 #[.int .i64 n, .int .i64 (m : Int)] w fun e w' => e = .returned (.bool (tens n m).isSome) ∧ w = w' := by
  have hmp : decide ((0 : Int) < m) = true := decide_eq_true (by omega)
  go_enter Tryd.func101, Tryd.ntmps101
  go_wp2_with fail
  go_loop [0, 5, 6] (fun z i _ => ∃ (j : Nat) (x : Int), j ≤ m ∧ i = .int .i64 j ∧ z = .int .i64 x ∧ inR x ∧ tens n m = tens x (m - j)) (fun _ i _ => m - (intOf i).toNat)
  case atStart => exact ⟨0, n, by omega, rfl, rfl, hn, by simp⟩
  case round =>
    obtain ⟨j, x, hj, rfl, rfl, hx, ht⟩ := hrel
    by_cases hlt : j < m
    · have hw := wrap_ten hx
      have hr := hx
      unfold inR at hr
      obtain ⟨k, hk⟩ : ∃ k, m - j = k + 1 := ⟨m - j - 1, by omega⟩
      rw [hk] at ht
      by_cases h10 : inR (x * 10)
      · have hin := h10
        unfold inR at hin
        obtain ⟨hwz, hdz⟩ := inR_div h10
        have hq : (Int.tdiv (x * 10) 10 == x) = true := by rw [hdz]; simp
        have HT := Lib.hid (ht.trans (tens_step x k h10))
        have H10 := Lib.hid h10
        clear ht hw hx h10
        go_wp2_with fail
        go_round
        case rel => exact ⟨j + 1, x * 10, by omega, by go_num, by go_num, H10.out, by rw [HT.out]; congr 1; omega⟩
        case measure => simp [intOf]; omega
      · have hq : (wrap64 (Int.tdiv (wrap64 (x * 10)) 10) == x) = false := by rw [wrap_tdiv, beq_eq_false_iff_ne]; exact fun e => h10 (hw.1 e)
        have HT := Lib.hid (ht.trans (tens_stop x k h10))
        clear ht hw hx h10
        go_wp2_with fail
        go_ret
        exact ⟨ret_bool (by rw [HT.out]; rfl), rfl⟩
    · obtain rfl : j = m := by omega
      have HT : Hid (tens n j = some x) := Lib.hid (by rw [ht, Nat.sub_self]; rfl)
      clear ht hx
      go_wp2_with fail
      go_ret
      exact ⟨ret_bool (by rw [HT.out]; rfl), rfl⟩
theorem specWhole (n e : Int) (w : World) (hn : inR n) (he : -20 ≤ e ∧ e ≤ 20) :
    Calls Tryd.prog 101 #[.int .i64 n, .int .i64 e] w fun r w' => r = .returned (.bool (decide (0 < e) && (tens n e.toNat).isSome)) ∧ w = w' := by
  by_cases h : 0 < e
  · obtain ⟨m, rfl⟩ := Int.eq_ofNat_of_zero_le (show 0 ≤ e by omega)
    refine (specWhole_pos n m w hn (by omega) (by omega)).mono ?_
    rintro r w' ⟨rfl, rfl⟩
    exact ⟨ret_bool (by rw [decide_eq_true h, Int.toNat_natCast]; rfl), rfl⟩
  · have hd : decide ((0 : Int) < e) = false := decide_eq_false h
    go_enter Tryd.func101, Tryd.ntmps101
    go_wp2_with fail
    go_loop [5] (fun i => i = .int .i64 0) (fun _ => 0)
    case atStart => exact rfl
    case round =>
      obtain rfl := hrel
      go_wp2_with fail
      go_ret
      exact ⟨ret_bool (by first | rfl | (rw [hd]; rfl)), rfl⟩

theorem text_iff (a b : ByteArray) : (a.toList == b.toList) = decide (a = b) := by
  rw [Bool.eq_iff_iff, decide_eq_true_iff, beq_iff_eq, ByteArray.toList_eq, ByteArray.toList_eq]
  constructor
  · intro h
    cases a; cases b
    simp only [ByteArray.mk.injEq]
    exact Array.toList_inj.1 h
  · intro h; rw [h]
theorem keyEq_bools (a b : V) : (((a.k == b.k) = true ∧ (a.n == b.n) = true ∧ (a.s.toList == b.s.toList) = true) ∧ keyEq a b) ∨ (((a.k == b.k) = false ∨ ((a.k == b.k) = true ∧ (a.n == b.n) = false) ∨ ((a.k == b.k) = true ∧ (a.n == b.n) = true ∧ (a.s.toList == b.s.toList) = false)) ∧ ¬ keyEq a b) := by
  unfold keyEq
  rw [text_iff]
  simp only [beq_iff_eq, beq_eq_false_iff_ne, decide_eq_true_iff, decide_eq_false_iff_not]
  by_cases h1 : a.k = b.k <;> by_cases h2 : a.n = b.n <;> by_cases h3 : a.s = b.s <;> simp [h1, h2, h3]
theorem pairsTo_step {R : V → V → Prop} {l : List V} {j : Nat} (hj : j < l.length) (he : j % 2 = 0) (h : pairsTo R l j) (hk : isKeyB l[j] = true) (hn : ∀ k (hk : k < j), k % 2 = 0 → ¬ R (l[k]'(by omega)) l[j]) : pairsTo R l (j + 2) := by
  intro i hi hlt hev
  by_cases e : i = j
  · subst e; exact ⟨hk, hn⟩
  · exact h i hi (by omega) hev
theorem pairsTo_end {R : V → V → Prop} {l : List V} {j : Nat} (hj : l.length ≤ j) (h : pairsTo R l j) : pairsTo R l l.length := fun i hi _ he => h i hi (by omega) he
theorem pairsTo_zero (R : V → V → Prop) (l : List V) : pairsTo R l 0 := fun i _ h => by omega

set_option maxHeartbeats 4000000 in
theorem specPairs (l : List V) (A : Option Addr) (cap : Nat) (w : World) (hl : l.length ≤ 1048576) (hat : Vs.at_ w 0 w.heap.size l A) :
    Calls Tryd.prog 103 #[.slice A l.length cap] w fun e w' => e = .returned (.bool (decide (pairsOk l))) ∧ Below w.heap.size w w' := by
  have HA := Lib.hid hat
  clear hat
  go_enter Tryd.func103, Tryd.ntmps103
  go_wp2_with fail
  go_loopw [3, 4] (fun i k wr => ∃ j : Nat, j ≤ l.length + 1 ∧ j % 2 = 0 ∧ i = .int .i64 j ∧ pairsTo keyEq l j ∧ Below w.heap.size w wr) (fun i _ _ => l.length + 2 - (intOf i).toNat)
  case atStart => exact ⟨0, by omega, rfl, rfl, pairsTo_zero _ _, Below.refl _ _⟩
  case round =>
    obtain ⟨j, hj, he, rfl, hp, hb⟩ := hrel
    have HP := Lib.hid hp
    clear hp
    by_cases hlt : j < l.length
    · obtain ⟨b, off, A', cap', eA, g1, g2, g3, ⟨c0, c1, c2, c3, c4⟩, g5⟩ := Vs.at_get j hlt (Vs.at_below HA.out hb (Nat.le_refl _))
      subst eA
      by_cases hkey : isKeyB l[j] = true
      · have hkk := hkey
        unfold isKeyB at hkk
        rw [decide_eq_true_iff] at hkk
        have HKEY := Lib.hid hkey
        clear hkey
        rcases (show (l[j].k != 5) = false ∨ ((l[j].k != 5) = true ∧ (l[j].k != 3) = false) by
          rcases hkk with h | h
          · left; rw [h]; rfl
          · right; rw [h]; exact ⟨rfl, rfl⟩) with hc | hc
        all_goals
          clear hkk
          go_wp2_with fail
          go_loopw [4] (fun k wq => ∃ m : Nat, m ≤ j + 1 ∧ m % 2 = 0 ∧ k = .int .i64 m ∧ (∀ q (hq : q < j), q < m → q % 2 = 0 → ¬ keyEq (l[q]'(by omega)) l[j]) ∧ Below w.heap.size w wq) (fun k _ => j + 2 - (intOf k).toNat)
          case atStart => exact ⟨0, by omega, rfl, rfl, fun q _ h => by omega, hb⟩
          case round =>
            obtain ⟨m, hm, hme, rfl, hnot, hbq⟩ := hrel
            have HNOT := Lib.hid hnot
            clear hnot
            by_cases hmj : m < j
            · have hmlt : m < l.length := by omega
              obtain ⟨b1, off1, A1, cap1, e1, k1, k2, k3, ⟨d0, d1, d2, d3, d4⟩, k5⟩ := Vs.at_get m hmlt (Vs.at_below HA.out hbq (Nat.le_refl _))
              obtain ⟨b2, off2, A2, cap2, e2, m1, m2, m3, ⟨f0, f1, f2, f3, f4⟩, m5⟩ := Vs.at_get j hlt (Vs.at_below HA.out hbq (Nat.le_refl _))
              injection e1 with e1
              injection e1 with e11 e12
              injection e2 with e2
              injection e2 with e21 e22
              subst e11 e12 e21 e22
              rcases keyEq_bools l[m] l[j] with ⟨⟨t1, t2, t3⟩, hq⟩ | ⟨ht, hq⟩
              · have HN : Hid (decide (pairsOk l) = false) := Lib.hid (decide_eq_false (fun h => (h.1 j hlt hlt he).2 m hmj hme hq))
                clear hq
                go_wp2_with fail
                go_quiet (fail)
                go_wp2_with fail
                go_ret
                exact ⟨ret_bool HN.out.symm, below_drewN hbq _⟩
              · have HQ := Lib.hid hq
                clear hq
                rcases ht with t1 | ⟨t1, t2⟩ | ⟨t1, t2, t3⟩
                all_goals
                  go_wp2_with fail
                  go_quiet (fail)
                  go_wp2_with fail
                  go_roundw
                  case rel => exact ⟨m + 2, by omega, by omega, by go_num, fun q hq1 hq2 hq3 => by
                    by_cases e : q = m
                    · subst e; exact HQ.out
                    · exact HNOT.out q hq1 (by omega) hq3, below_drewN hbq _⟩
                  case measure => simp [intOf]; omega
            · have HST := Lib.hid (pairsTo_step hlt he HP.out HKEY.out (fun k hk hke => HNOT.out k hk (by omega) hke))
              go_wp2_with fail
              go_roundw
              case rel => exact ⟨j + 2, by omega, by omega, by go_num, HST.out, hbq⟩
              case measure => simp [intOf]; omega
      · have hkk : ¬ (l[j].k = 5 ∨ l[j].k = 3) := by unfold isKeyB at hkey; rwa [decide_eq_true_iff] at hkey
        have hc1 : (l[j].k != 5) = true := by simp; omega
        have hc2 : (l[j].k != 3) = true := by simp; omega
        have HN : Hid (decide (pairsOk l) = false) := Lib.hid (decide_eq_false (fun h => hkey (h.1 j hlt hlt he).1))
        clear hkk hkey
        go_wp2_with fail
        go_ret
        exact ⟨ret_bool HN.out.symm, hb⟩
    · have HE : Hid (decide (pairsOk l) = (decide (l.length % 2 = 0) && decide (l.length ≤ 300))) := Lib.hid (by
        unfold pairsOk
        rw [show (pairsTo keyEq l l.length ∧ l.length % 2 = 0 ∧ l.length ≤ 300) = (l.length % 2 = 0 ∧ l.length ≤ 300) from propext ⟨fun h => h.2, fun h => ⟨pairsTo_end (by omega) HP.out, h⟩⟩]
        rw [Bool.decide_and])
      by_cases hev : l.length % 2 = 0
      · have hx : ((l.length : Int) % 2 == 0) = true := by rw [beq_iff_eq]; omega
        go_wp2_with fail
        go_ret
        exact ⟨ret_bool (by rw [HE.out, decide_eq_true hev, Bool.true_and]; exact decide_eq_decide.2 (by omega)), hb⟩
      · have hx : ((l.length : Int) % 2 == 0) = false := by rw [beq_eq_false_iff_ne]; omega
        go_wp2_with fail
        go_ret
        exact ⟨ret_bool (by rw [HE.out, decide_eq_false hev]; rfl), hb⟩
end Go.Proofs.YtcjamnfboifjeaaDoor

/-
  The reference's test of a value but for its kids' rightness.
-/
namespace Go.Proofs.YtcjamnfboifjeaaDoor
open Go.RowKit
set_option linter.unusedVariables false
set_option maxRecDepth 100000

theorem bl_q {w w1 : World} {o : Obj} {n : Nat} (h : Below ((w.alloc o).drewN n).heap.size ((w.alloc o).drewN n) w1) : Below w.heap.size w w1 :=
  (below_drewN ((Below.refl w.heap.size w).alloc (Nat.le_refl _) o) n).trans (h.mono (by show w.heap.size ≤ (w.alloc o).heap.size; simp))
theorem blk_q {w : World} {g n : Nat} {t : TypeId} {cs : Array Value} (h : Blk w g t cs) : Blk (w.drewN n) g t cs := h
theorem at_q {w : World} {o : Obj} {n : Nat} {l : List V} {A : Option Addr} (h : Vs.at_ w 0 w.heap.size l A) : Vs.at_ ((w.alloc o).drewN n) 0 ((w.alloc o).drewN n).heap.size l A :=
  Vs.at_more (Nat.le_refl _) (by show w.heap.size ≤ (w.alloc o).heap.size; simp) _ _ (Vs.at_keep (w := w.alloc o) (w' := (w.alloc o).drewN n) (fun _ _ _ => rfl) _ _ (Vs.at_alloc h (Nat.le_refl _) o))
theorem s_empty (s : ByteArray) : s.size = 0 ↔ s.toList = [] := by
  rw [ByteArray.toList_eq]
  constructor
  · intro h
    have : s.data.toList.length = 0 := by simpa using h
    exact List.length_eq_zero_iff.1 this
  · intro h
    have : s.data.toList.length = 0 := by rw [h]; rfl
    simpa using this
theorem len0 (n : Nat) : n = 0 ↔ ((n : Int) == 0) = true := by rw [beq_iff_eq]; omega
theorem len1 (n : Nat) : n = 1 ↔ ((n : Int) == 1) = true := by rw [beq_iff_eq]; omega
theorem sz2000 (n : Nat) : n ≤ 2000 ↔ (n : Int) ≤ 2000 := by omega
theorem own_k012 {v : V} (h : v.k = 0 ∨ v.k = 1 ∨ v.k = 2) : ownOk v ↔ v.n = 0 ∧ v.e = 0 ∧ v.s.toList = [] ∧ ((v.kids.length : Int) == 0) = true := by
  unfold ownOk nodeOk kidsOk
  rw [if_pos (by omega), if_neg (by omega), if_neg (by omega), if_neg (by omega), s_empty, len0]
  simp only [and_assoc]
theorem own_k3 {v : V} (h : v.k = 3) : ownOk v ↔ v.e = 0 ∧ v.s.toList = [] ∧ ((v.kids.length : Int) == 0) = true := by
  unfold ownOk nodeOk kidsOk
  rw [if_neg (by omega), if_pos (by omega), if_neg (by omega), if_neg (by omega), if_neg (by omega), s_empty, len0]
  simp only [and_assoc]
theorem own_k4 {v : V} (h : v.k = 4) : ownOk v ↔ decOk v.n v.e ∧ v.s.toList = [] ∧ ((v.kids.length : Int) == 0) = true := by
  unfold ownOk nodeOk kidsOk
  rw [if_neg (by omega), if_neg (by omega), if_pos (by omega), if_neg (by omega), if_neg (by omega), if_neg (by omega), s_empty, len0]
  simp only [and_assoc]
theorem own_k5 {v : V} (h : v.k = 5) : ownOk v ↔ v.n = 0 ∧ v.e = 0 ∧ textOk v.s = true ∧ (v.s.size : Int) ≤ 2000 ∧ ((v.kids.length : Int) == 0) = true := by
  unfold ownOk nodeOk kidsOk
  rw [if_neg (by omega), if_neg (by omega), if_neg (by omega), if_pos (by omega), if_neg (by omega), if_neg (by omega), if_neg (by omega), sz2000, len0]
  simp only [and_assoc]
theorem own_k6 {v : V} (h : v.k = 6) : ownOk v ↔ v.n = 0 ∧ v.e = 0 ∧ (v.s.size : Int) ≤ 2000 ∧ ((v.kids.length : Int) == 0) = true := by
  unfold ownOk nodeOk kidsOk
  rw [if_neg (by omega), if_neg (by omega), if_neg (by omega), if_neg (by omega), if_pos (by omega), if_neg (by omega), if_neg (by omega), if_neg (by omega), sz2000, len0]
  simp only [and_assoc]
theorem own_k7 {v : V} (h : v.k = 7) : ownOk v ↔ v.n = 0 ∧ v.e = 0 ∧ v.s.toList = [] := by
  unfold ownOk nodeOk kidsOk
  rw [if_pos (by omega), if_pos (by omega), s_empty]
  simp only [and_true]
theorem own_k8 {v : V} (h : v.k = 8) : ownOk v ↔ v.n = 0 ∧ v.e = 0 ∧ v.s.toList = [] ∧ pairsOk v.kids := by
  unfold ownOk nodeOk kidsOk
  rw [if_pos (by omega), if_neg (by omega), if_neg (by omega), if_pos (by omega), s_empty]
  simp only [and_assoc]
theorem own_k9 {v : V} (h : v.k = 9) : ownOk v ↔ (0 ≤ v.n ∧ v.n ≤ 1000000) ∧ v.e = 0 ∧ v.s.toList = [] ∧ ((v.kids.length : Int) == 1) = true := by
  unfold ownOk nodeOk kidsOk
  rw [if_neg (by omega), if_neg (by omega), if_neg (by omega), if_neg (by omega), if_neg (by omega), if_pos (by omega), if_neg (by omega), if_pos (by omega), s_empty, len1]
  simp only [and_assoc]
theorem dec_bool {n e : Int} (h1 : -20 ≤ e) (h2 : e ≤ 20) (h3 : e ≠ 0) (h4 : -999999999999999999 ≤ n) (h5 : n ≤ 999999999999999999) (h6 : ¬ Int.tmod n 10 = 0) : (!(decide (0 < e) && (tens n e.toNat).isSome)) = true ↔ decOk n e := by
  unfold decOk
  cases ht : tens n e.toNat with
  | none => simp [*]
  | some x => simp [*]
theorem own_else {v : V} (h : v.k < 0 ∨ 9 < v.k) : ¬ ownOk v := by
  unfold ownOk nodeOk
  rw [if_neg (by omega), if_neg (by omega), if_neg (by omega), if_neg (by omega), if_neg (by omega), if_neg (by omega)]
  exact fun h => h.1

set_option maxHeartbeats 4000000 in
theorem specOwn_0 (v : V) (A : Option Addr) (cap : Nat) (w : World) (hk : v.k = 0) (hl : v.kids.length ≤ 1048576) :
    Calls Tryd.prog 90 #[v.agg A cap] w fun e w' => e = .returned (.bool (decide (ownOk v))) ∧ Below w.heap.size w w' := by
  have HO := Lib.hid (own_k012 (.inl hk))
  unfold V.agg
  go_enter Tryd.func90, Tryd.ntmps90
  go_wp2_with fail
  go_quiet (fail)
  go_wp2_with fail
  all_goals go_ret
  all_goals refine ⟨ret_bool ?_, below_drewN ((Below.refl _ _).alloc (Nat.le_refl _) _) _⟩
  all_goals try generalize ((v.kids.length : Int) == 0) = bl at *
  all_goals first
    | (simp [HO.out, *]; done)
    | (simp [HO.out, *]; intro; omega)
    | (simp [HO.out, *]; cases v.s.toList <;> rfl)

set_option maxHeartbeats 4000000 in
theorem specOwn_1 (v : V) (A : Option Addr) (cap : Nat) (w : World) (hk : v.k = 1) (hl : v.kids.length ≤ 1048576) :
    Calls Tryd.prog 90 #[v.agg A cap] w fun e w' => e = .returned (.bool (decide (ownOk v))) ∧ Below w.heap.size w w' := by
  have HO := Lib.hid (own_k012 (.inr (.inl hk)))
  unfold V.agg
  go_enter Tryd.func90, Tryd.ntmps90
  go_wp2_with fail
  go_quiet (fail)
  go_wp2_with fail
  all_goals go_ret
  all_goals refine ⟨ret_bool ?_, below_drewN ((Below.refl _ _).alloc (Nat.le_refl _) _) _⟩
  all_goals try generalize ((v.kids.length : Int) == 0) = bl at *
  all_goals first
    | (simp [HO.out, *]; done)
    | (simp [HO.out, *]; intro; omega)
    | (simp [HO.out, *]; cases v.s.toList <;> rfl)

set_option maxHeartbeats 4000000 in
theorem specOwn_2 (v : V) (A : Option Addr) (cap : Nat) (w : World) (hk : v.k = 2) (hl : v.kids.length ≤ 1048576) :
    Calls Tryd.prog 90 #[v.agg A cap] w fun e w' => e = .returned (.bool (decide (ownOk v))) ∧ Below w.heap.size w w' := by
  have HO := Lib.hid (own_k012 (.inr (.inr hk)))
  unfold V.agg
  go_enter Tryd.func90, Tryd.ntmps90
  go_wp2_with fail
  go_quiet (fail)
  go_wp2_with fail
  all_goals go_ret
  all_goals refine ⟨ret_bool ?_, below_drewN ((Below.refl _ _).alloc (Nat.le_refl _) _) _⟩
  all_goals try generalize ((v.kids.length : Int) == 0) = bl at *
  all_goals first
    | (simp [HO.out, *]; done)
    | (simp [HO.out, *]; intro; omega)
    | (simp [HO.out, *]; cases v.s.toList <;> rfl)

set_option maxHeartbeats 4000000 in
theorem specOwn_3 (v : V) (A : Option Addr) (cap : Nat) (w : World) (hk : v.k = 3) (hl : v.kids.length ≤ 1048576) :
    Calls Tryd.prog 90 #[v.agg A cap] w fun e w' => e = .returned (.bool (decide (ownOk v))) ∧ Below w.heap.size w w' := by
  have HO := Lib.hid (own_k3 hk)
  unfold V.agg
  go_enter Tryd.func90, Tryd.ntmps90
  go_wp2_with fail
  go_quiet (fail)
  go_wp2_with fail
  all_goals go_ret
  all_goals refine ⟨ret_bool ?_, below_drewN ((Below.refl _ _).alloc (Nat.le_refl _) _) _⟩
  all_goals try generalize ((v.kids.length : Int) == 0) = bl at *
  all_goals first
    | (simp [HO.out, *]; done)
    | (simp [HO.out, *]; intro; omega)
    | (simp [HO.out, *]; cases v.s.toList <;> rfl)

set_option maxHeartbeats 4000000 in
theorem specOwn_6 (v : V) (A : Option Addr) (cap : Nat) (w : World) (hk : v.k = 6) (hl : v.kids.length ≤ 1048576) :
    Calls Tryd.prog 90 #[v.agg A cap] w fun e w' => e = .returned (.bool (decide (ownOk v))) ∧ Below w.heap.size w w' := by
  have HO := Lib.hid (own_k6 hk)
  unfold V.agg
  go_enter Tryd.func90, Tryd.ntmps90
  go_wp2_with fail
  go_quiet (fail)
  go_wp2_with fail
  all_goals go_ret
  all_goals refine ⟨ret_bool ?_, below_drewN ((Below.refl _ _).alloc (Nat.le_refl _) _) _⟩
  all_goals try generalize ((v.kids.length : Int) == 0) = bl at *
  all_goals first
    | (simp [HO.out, *]; done)
    | (simp [HO.out, *]; intro; omega)
    | (simp [HO.out, *]; cases v.s.toList <;> rfl)

set_option maxHeartbeats 4000000 in
theorem specOwn_7 (v : V) (A : Option Addr) (cap : Nat) (w : World) (hk : v.k = 7) (hl : v.kids.length ≤ 1048576) :
    Calls Tryd.prog 90 #[v.agg A cap] w fun e w' => e = .returned (.bool (decide (ownOk v))) ∧ Below w.heap.size w w' := by
  have HO := Lib.hid (own_k7 hk)
  unfold V.agg
  go_enter Tryd.func90, Tryd.ntmps90
  go_wp2_with fail
  go_quiet (fail)
  go_wp2_with fail
  all_goals go_ret
  all_goals refine ⟨ret_bool ?_, below_drewN ((Below.refl _ _).alloc (Nat.le_refl _) _) _⟩
  all_goals try generalize ((v.kids.length : Int) == 0) = bl at *
  all_goals first
    | (simp [HO.out, *]; done)
    | (simp [HO.out, *]; intro; omega)
    | (simp [HO.out, *]; cases v.s.toList <;> rfl)

set_option maxHeartbeats 4000000 in
theorem specOwn_5 (v : V) (A : Option Addr) (cap : Nat) (w : World) (hk : v.k = 5) (hl : v.kids.length ≤ 1048576) (hs : v.s.size ≤ 1048576) :
    Calls Tryd.prog 90 #[v.agg A cap] w fun e w' => e = .returned (.bool (decide (ownOk v))) ∧ Below w.heap.size w w' := by
  have HO := Lib.hid (own_k5 hk)
  unfold V.agg
  go_enter Tryd.func90, Tryd.ntmps90
  go_wp2_with fail
  go_quiet (fail)
  go_wp2_with (go_at_call 102; refine (specTextOk v.s _ hs).mono ?_; rintro e w1 ⟨rfl, hb1⟩; obtain ⟨p0, p1, p2, p3, p4⟩ := ((blk_q (Blk.new _ _ _)).below hb1 (by simp)).five; have hq := hb1.size)
  all_goals go_ret
  all_goals refine ⟨ret_bool ?_, by first | exact below_drewN ((Below.refl _ _).alloc (Nat.le_refl _) _) _ | exact bl_q hb1⟩
  all_goals try generalize ((v.kids.length : Int) == 0) = bl at *
  all_goals try generalize ((v.kids.length : Int) == 1) = bl at *
  all_goals first
    | (simp [HO.out, *]; done)
    | (simp [HO.out, *]; intro; omega)
    | (simp [HO.out, *]; cases v.s.toList <;> rfl)

set_option maxHeartbeats 4000000 in
theorem specOwn_8 (v : V) (A : Option Addr) (cap : Nat) (w : World) (hk : v.k = 8) (hl : v.kids.length ≤ 1048576) (hat : Vs.at_ w 0 w.heap.size v.kids A) :
    Calls Tryd.prog 90 #[v.agg A cap] w fun e w' => e = .returned (.bool (decide (ownOk v))) ∧ Below w.heap.size w w' := by
  have HO := Lib.hid (own_k8 hk)
  have HA := Lib.hid hat
  clear hat
  unfold V.agg
  go_enter Tryd.func90, Tryd.ntmps90
  go_wp2_with fail
  go_quiet (fail)
  go_wp2_with (go_at_call 103; refine (specPairs v.kids A cap _ hl (at_q HA.out)).mono ?_; rintro e w1 ⟨rfl, hb1⟩)
  all_goals go_ret
  all_goals refine ⟨ret_bool ?_, by first | exact below_drewN ((Below.refl _ _).alloc (Nat.le_refl _) _) _ | exact bl_q hb1⟩
  all_goals try generalize ((v.kids.length : Int) == 0) = bl at *
  all_goals try generalize ((v.kids.length : Int) == 1) = bl at *
  all_goals first
    | (simp [HO.out, *]; done)
    | (simp [HO.out, *]; intro; omega)
    | (simp [HO.out, *]; cases v.s.toList <;> rfl)

set_option maxHeartbeats 4000000 in
theorem specOwn_9 (v : V) (A : Option Addr) (cap : Nat) (w : World) (hk : v.k = 9) (hl : v.kids.length ≤ 1048576) :
    Calls Tryd.prog 90 #[v.agg A cap] w fun e w' => e = .returned (.bool (decide (ownOk v))) ∧ Below w.heap.size w w' := by
  have HO := Lib.hid (own_k9 hk)
  unfold V.agg
  go_enter Tryd.func90, Tryd.ntmps90
  go_wp2_with fail
  go_quiet (fail)
  go_wp2_with (go_at_call 100; go_in)
  all_goals go_ret
  all_goals refine ⟨ret_bool ?_, by first | exact below_drewN ((Below.refl _ _).alloc (Nat.le_refl _) _) _ | exact bl_q hb1⟩
  all_goals try generalize ((v.kids.length : Int) == 0) = bl at *
  all_goals try generalize ((v.kids.length : Int) == 1) = bl at *
  all_goals first
    | (simp [HO.out, *]; done)
    | (simp [HO.out, *]; intro; omega)
    | (simp [HO.out, *]; cases v.s.toList <;> rfl)

set_option maxHeartbeats 4000000 in
theorem specOwn_4 (v : V) (A : Option Addr) (cap : Nat) (w : World) (hk : v.k = 4) (hl : v.kids.length ≤ 1048576) :
    Calls Tryd.prog 90 #[v.agg A cap] w fun e w' => e = .returned (.bool (decide (ownOk v))) ∧ Below w.heap.size w w' := by
  have HO := Lib.hid (own_k4 hk)
  unfold V.agg
  go_enter Tryd.func90, Tryd.ntmps90
  go_wp2_with fail
  go_quiet (fail)
  go_wp2_with (first | (go_at_call 100; go_in) | (go_at_call 101; refine (specWhole v.n v.e _ (by unfold inR; omega) (by omega)).mono ?_; rintro e w1 ⟨rfl, rfl⟩))
  all_goals go_ret
  all_goals refine ⟨ret_bool ?_, below_drewN ((Below.refl _ _).alloc (Nat.le_refl _) _) _⟩
  all_goals first
    | (refine Eq.symm (decide_eq_false (fun h => ?_)); have h := HO.out.1 h; obtain ⟨⟨q1, q2, q3, q4, q5, q6, q7⟩, q8, q9⟩ := h; first | omega | (rw [beq_iff_eq] at q9; simp_all; done) | (simp_all; done))
    | (have hb := dec_bool (n := v.n) (e := v.e) (by omega) (by omega) (by omega) (by omega) (by omega) (by assumption)
       rw [Bool.eq_iff_iff, decide_eq_true_iff, HO.out, ← hb]
       simp [*])

theorem specOwn_else (v : V) (A : Option Addr) (cap : Nat) (w : World) (hk : v.k < 0 ∨ 9 < v.k) :
    Calls Tryd.prog 90 #[v.agg A cap] w fun e w' => e = .returned (.bool (decide (ownOk v))) ∧ Below w.heap.size w w' := by
  have HO := Lib.hid (own_else hk)
  have q0 : (v.k == 0) = false := by rw [beq_eq_false_iff_ne]; omega
  have q1 : (v.k == 1) = false := by rw [beq_eq_false_iff_ne]; omega
  have q2 : (v.k == 2) = false := by rw [beq_eq_false_iff_ne]; omega
  have q3 : (v.k == 3) = false := by rw [beq_eq_false_iff_ne]; omega
  have q4 : (v.k == 4) = false := by rw [beq_eq_false_iff_ne]; omega
  have q5 : (v.k == 5) = false := by rw [beq_eq_false_iff_ne]; omega
  have q6 : (v.k == 6) = false := by rw [beq_eq_false_iff_ne]; omega
  have q7 : (v.k == 7) = false := by rw [beq_eq_false_iff_ne]; omega
  have q8 : (v.k == 8) = false := by rw [beq_eq_false_iff_ne]; omega
  have q9 : (v.k == 9) = false := by rw [beq_eq_false_iff_ne]; omega
  clear hk
  unfold V.agg
  go_enter Tryd.func90, Tryd.ntmps90
  go_wp2_with fail
  go_quiet (fail)
  go_wp2_with fail
  go_ret
  exact ⟨ret_bool (decide_eq_false HO.out).symm, below_drewN ((Below.refl _ _).alloc (Nat.le_refl _) _) _⟩
theorem specOwn (v : V) (A : Option Addr) (cap : Nat) (w : World) (hl : v.kids.length ≤ 1048576) (hs : v.s.size ≤ 1048576) (hat : Vs.at_ w 0 w.heap.size v.kids A) :
    Calls Tryd.prog 90 #[v.agg A cap] w fun e w' => e = .returned (.bool (decide (ownOk v))) ∧ Below w.heap.size w w' := by
  rcases (show v.k = 0 ∨ v.k = 1 ∨ v.k = 2 ∨ v.k = 3 ∨ v.k = 4 ∨ v.k = 5 ∨ v.k = 6 ∨ v.k = 7 ∨ v.k = 8 ∨ v.k = 9 ∨ (v.k < 0 ∨ 9 < v.k) by omega) with h | h | h | h | h | h | h | h | h | h | h
  · exact specOwn_0 v A cap w h hl
  · exact specOwn_1 v A cap w h hl
  · exact specOwn_2 v A cap w h hl
  · exact specOwn_3 v A cap w h hl
  · exact specOwn_4 v A cap w h hl
  · exact specOwn_5 v A cap w h hl hs
  · exact specOwn_6 v A cap w h hl
  · exact specOwn_7 v A cap w h hl
  · exact specOwn_8 v A cap w h hl hat
  · exact specOwn_9 v A cap w h hl
  · exact specOwn_else v A cap w h
end Go.Proofs.YtcjamnfboifjeaaDoor

/-
  ValueOk of the reference.
-/
namespace Go.Proofs.YtcjamnfboifjeaaDoor
open Go.RowKit
set_option linter.unusedVariables false
set_option maxRecDepth 100000

theorem Vs.weight_get {l : List V} (i : Nat) (h : i < l.length) : (l[i]).weight + 1 ≤ Vs.weight l := by
  have h1 := Vs.weight_step l i h
  have h2 := Vs.weight_take l (i + 1)
  omega
theorem V.weight_kids (v : V) : v.s.size ≤ v.weight ∧ v.kids.length ≤ v.weight ∧ Vs.weight v.kids ≤ v.weight := by
  have := V.weight_eq v
  have := Vs.len_le v.kids
  omega
def SpecRightSaid (v : V) : Prop := ∀ (d : Int) (A : Option Addr) (cap : Nat) (w : World), v.weight ≤ 1048576 → -1 ≤ d → d ≤ 12 → Vs.at_ w 0 w.heap.size v.kids A →
    Calls Tryd.prog 64 #[v.agg A cap, .int .i64 d] w fun e w' => e = .returned (.bool (decide (V.right d v))) ∧ Below w.heap.size w w'

set_option maxHeartbeats 2000000 in
theorem specRight_step (v : V) (hk : ∀ i (h : i < v.kids.length), SpecRightSaid v.kids[i]) : SpecRightSaid v := by
  intro d A cap w hw hd1 hd2 hat
  obtain ⟨hw1, hw2, hw3⟩ := V.weight_kids v
  have HE := Lib.hid (V.right_eq d v)
  by_cases hd : d < 0
  · have HN : Hid (¬ V.right d v) := Lib.hid (fun h => by have := (HE.out.1 h).1; omega)
    unfold V.agg
    go_enter Tryd.func64, Tryd.ntmps64
    go_wp2_with fail
    go_ret
    exact ⟨ret_bool (decide_eq_false HN.out).symm, (Below.refl _ _).alloc (Nat.le_refl _) _⟩
  · have hdd : decide (d < 0) = false := decide_eq_false hd
    have hC := fun (i : Nat) (h : i < v.kids.length) (A' : Option Addr) (c : Nat) (w' : World) (h1 : Vs.at_ w' 0 w'.heap.size (v.kids[i]).kids A') => hk i h (d - 1) A' c w' (by have := Vs.weight_get i h; omega) (by omega) (by omega) h1
    have HC := Lib.hid hC
    have HA := Lib.hid hat
    clear hC hk hat
    unfold V.agg
    go_enter Tryd.func64, Tryd.ntmps64
    go_wp2_with fail
    refine (specOwn v A cap _ (by omega) (by omega) (Vs.at_more (Nat.le_refl _) (by simp) _ _ (Vs.at_alloc HA.out (Nat.le_refl _) _))).mono ?_
    rintro e w1 ⟨rfl, hb1⟩
    have B1 := (Blk.new _ _ _).below hb1 (by simp)
    have b1 : Below w.heap.size w w1 := ((Below.refl _ w).alloc (Nat.le_refl _) _).trans (hb1.mono (by simp))
    clear hb1
    by_cases ho : ownOk v
    · rw [show decide (ownOk v) = true from decide_eq_true ho]
      have HO := Lib.hid ho
      clear ho
      go_wp2_with fail
      go_loopw [5] (fun i wr => ∃ j : Nat, j ≤ v.kids.length ∧ i = .int .i64 j ∧ Vs.right (d - 1) (v.kids.take j) ∧ Blk wr w.heap.size 28 #[.int .i64 v.k, .int .i64 v.n, .int .i64 v.e, .string v.s, .slice A v.kids.length cap] ∧ Below w.heap.size w wr) (fun i _ => v.kids.length - (intOf i).toNat)
      case atStart => exact ⟨0, Nat.zero_le _, rfl, by simp [Vs.right], B1, b1⟩
      case round =>
        obtain ⟨j, hj, rfl, hr, B, hb⟩ := hrel
        have HR := Lib.hid hr
        clear hr
        have b4 : wr.cell? ⟨w.heap.size, 4, none⟩ = some (.slice A v.kids.length cap) := B.cell 4
        by_cases hlt : j < v.kids.length
        · obtain ⟨b, off, A', cap', rfl, g1, g2, g3, ⟨c0, c1, c2, c3, c4⟩, g5⟩ := Vs.at_get j hlt (Vs.at_below HA.out hb (Nat.le_refl _))
          go_wp2_with fail
          refine (HC.out j hlt A' cap' _ (Vs.at_more (Nat.le_refl _) hb.size _ _ g5)).mono ?_
          rintro e w2 ⟨rfl, hb2⟩
          have hbw : Below w.heap.size w w2 := hb.trans (hb2.mono hb.size)
          have B' := B.below hb2 B.lt
          clear c0 c1 c2 c3 c4 b4
          by_cases hv : V.right (d - 1) v.kids[j]
          · rw [show decide (V.right (d - 1) v.kids[j]) = true from decide_eq_true hv]
            have HV := Lib.hid (Vs.right_step (d - 1) v.kids j hlt HR.out hv)
            clear hv
            go_wp2_with fail
            go_roundw
            case rel => exact ⟨j + 1, by omega, by go_num, HV.out, B', hbw⟩
            case measure => simp [intOf]; omega
          · rw [show decide (V.right (d - 1) v.kids[j]) = false from decide_eq_false hv]
            have HN : Hid (¬ V.right d v) := Lib.hid (fun h => hv ((Vs.right_iff _ _).1 (HE.out.1 h).2.2 j hlt))
            clear hv
            go_wp2_with fail
            go_ret
            exact ⟨ret_bool (decide_eq_false HN.out).symm, hbw⟩
        · obtain rfl : j = v.kids.length := by omega
          have HY : Hid (V.right d v) := Lib.hid (HE.out.2 ⟨by omega, HO.out, Vs.right_take _ _ HR.out⟩)
          go_wp2_with fail
          go_ret
          exact ⟨ret_bool (decide_eq_true HY.out).symm, hb⟩
    · rw [show decide (ownOk v) = false from decide_eq_false ho]
      have HN : Hid (¬ V.right d v) := Lib.hid (fun h => ho (HE.out.1 h).2.1)
      clear ho
      go_wp2_with fail
      go_ret
      exact ⟨ret_bool (decide_eq_false HN.out).symm, b1⟩
theorem specRight : ∀ v, SpecRightSaid v := V.all specRight_step

set_option maxHeartbeats 2000000 in
theorem specValueOk (v : V) (A : Option Addr) (cap : Nat) (w : World) (hw : v.weight ≤ 1048576) (hat : Vs.at_ w 0 w.heap.size v.kids A) :
    Calls Tryd.prog 22 #[v.agg A cap] w fun e w' => e = .returned (.bool (decide (okV v))) ∧ Below w.heap.size w w' := by
  have HA := Lib.hid hat
  have hn : v.nodes ≤ 1048577 := by have := V.nodes_weight v; omega
  clear hat
  unfold V.agg
  go_enter Tryd.func22, Tryd.ntmps22
  go_wp2_with fail
  refine (specRight v 12 A cap _ hw (by omega) (by omega) (Vs.at_more (Nat.le_refl _) (by simp) _ _ (Vs.at_alloc HA.out (Nat.le_refl _) _))).mono ?_
  rintro e w1 ⟨rfl, hb1⟩
  obtain ⟨p0, p1, p2, p3, p4⟩ := ((Blk.new _ _ _).below hb1 (by simp)).five
  have b1 : Below w.heap.size w w1 := ((Below.refl _ w).alloc (Nat.le_refl _) _).trans (hb1.mono (by simp))
  by_cases hr : V.right 12 v
  · rw [show decide (V.right 12 v) = true from decide_eq_true hr]
    have HK : Hid (decide (okV v) = decide ((v.nodes : Int) ≤ 300)) := Lib.hid (decide_eq_decide.2 ⟨fun h => by have := h.2; omega, fun h => ⟨hr, by omega⟩⟩)
    clear hr hb1
    go_wp2_with fail
    refine (specNodes v A cap _ hn (Vs.at_more (Nat.le_refl _) b1.size _ _ (Vs.at_below HA.out b1 (Nat.le_refl _)))).mono ?_
    rintro e w2 ⟨rfl, hb2⟩
    go_wp2_with fail
    go_ret
    exact ⟨ret_bool HK.out.symm, b1.trans (hb2.mono b1.size)⟩
  · rw [show decide (V.right 12 v) = false from decide_eq_false hr]
    have HK : Hid (decide (okV v) = false) := Lib.hid (decide_eq_false fun h => hr h.1)
    clear hr hb1
    go_wp2_with fail
    go_ret
    exact ⟨ret_bool HK.out.symm, b1⟩
end Go.Proofs.YtcjamnfboifjeaaDoor

/-
  The program's isValue and ValueOk.
-/
namespace Go.Proofs.YtcjamnfboifjeaaDoor
open Go.RowKit
set_option linter.unusedVariables false
set_option maxRecDepth 100000
set_option linter.unusedSimpArgs false

def insV (L : Nat) (d : Int) (l : List V) : Prop := Vs.nodes l ≤ L ∧ Vs.rightI (12 - (d + 1)) l
theorem inV_no1 {d : Int} {v : V} : ¬ inV 0 d v := fun h => by have := h.1; have := V.nodes_pos v; omega
theorem inV_no2 {L : Nat} {d : Int} {v : V} (hd : 12 < d) : ¬ inV L d v := fun h => by have := ((V.rightI_eq _ _).1 h.2).1; omega
theorem inV_no3 {L : Nat} {d : Int} {v : V} (hl : L < v.kids.length + 1) : ¬ inV L d v := fun h => by have := h.1; have := V.nodes_eq v; have := Vs.len_nodes v.kids; omega
theorem inV_no4 {L : Nat} {d : Int} {v : V} (hn : ¬ nodeOk v) : ¬ inV L d v := fun h => hn ((V.rightI_eq _ _).1 h.2).2.1
theorem inV_no5 {L : Nat} {d : Int} {v : V} (hn : ¬ kidsI v) : ¬ inV L d v := fun h => hn ((V.rightI_eq _ _).1 h.2).2.2.1
theorem inV_iff {L : Nat} {d : Int} {v : V} (hL : 1 ≤ L) (hd : d ≤ 12) (hn : nodeOk v) (hk : kidsI v) : inV L d v ↔ insV (L - 1) d v.kids := by
  unfold inV insV
  rw [V.rightI_eq, V.nodes_eq, show 12 - d - 1 = 12 - (d + 1) by omega]
  constructor
  · rintro ⟨h1, _, _, _, h2⟩; exact ⟨by omega, h2⟩
  · rintro ⟨h1, h2⟩; exact ⟨by omega, by omega, hn, hk, h2⟩
theorem insV_step {L : Nat} {d : Int} {l : List V} {j : Nat} (hj : j < l.length) (h : insV L d (l.take j)) (hv : inV (L - Vs.nodes (l.take j)) (d + 1) l[j]) : insV L d (l.take (j + 1)) := by
  have h1 := hv.1
  have h2 := h.1
  exact ⟨by rw [Vs.nodes_step l j hj]; omega, Vs.rightI_step _ l j hj h.2 hv.2⟩
theorem insV_no {L : Nat} {d : Int} {l : List V} {j : Nat} (hj : j < l.length) (hv : ¬ inV (L - Vs.nodes (l.take j)) (d + 1) l[j]) : ¬ insV L d l := fun h => hv ⟨by
    have h1 := h.1
    have h2 := Vs.nodes_step l j hj
    have h3 := Vs.nodes_take l (j + 1)
    omega, (Vs.rightI_iff _ _).1 h.2 j hj⟩
/-- The frame of a value's test: its three new blocks, and the count one less. -/
theorem val_frame {w : World} {p : Nat} {tv ti tp : TypeId} {cs : Array Value} {u u' d q : Value} (hB : Blk w p ti #[u]) :
    ∃ w3, w3 = ((((w.alloc (.cells cs tv)).alloc (.cells #[d] ti)).alloc (.cells #[q] tp)).setCell ⟨p, 0, none⟩ u') ∧ Blk w3 w.heap.size tv cs ∧ Blk w3 (w.heap.size + 1) ti #[d] ∧ Blk w3 (w.heap.size + 1 + 1) tp #[q] ∧ Blk w3 p ti #[u'] ∧ Keep (fun _ k => k = p) w w3 := by
  have hlt := hB.lt
  refine ⟨_, rfl, ?_, ?_, ?_, ?_, ?_⟩
  · exact (Below.heap_setCell _ ⟨p, 0, none⟩ u' _ (by simp; omega)).trans (((Blk.new w _ _).alloc _).alloc _)
  · have h := (Blk.new (w.alloc (.cells cs tv)) ti #[d]).alloc (.cells #[q] tp)
    rw [show (w.alloc (.cells cs tv)).heap.size = w.heap.size + 1 by simp] at h
    exact (Below.heap_setCell _ ⟨p, 0, none⟩ u' _ (by simp; omega)).trans h
  · have h := Blk.new ((w.alloc (.cells cs tv)).alloc (.cells #[d] ti)) tp #[q]
    rw [show ((w.alloc (.cells cs tv)).alloc (.cells #[d] ti)).heap.size = w.heap.size + 1 + 1 by simp] at h
    exact (Below.heap_setCell _ ⟨p, 0, none⟩ u' _ (by simp; omega)).trans h
  · exact (((hB.alloc _).alloc _).alloc _).set1 u'
  · exact keep_set1 (keep_alloc1 (keep_alloc1 (keep_alloc1 (Keep.refl w) _) _) _) u'

def ImplValSaid (v : V) : Prop := ∀ (A : Option Addr) (cap L : Nat) (d : Int) (p : Nat) (W w : World), v.weight ≤ 1048576 → L ≤ 300 → 0 ≤ d → d ≤ 13 → Tabs W → Vs.at_ W 0 W.heap.size v.kids A →
    Below W.heap.size W w → W.heap.size ≤ p → Blk w p 3 #[.int .i64 L] →
    Calls Tryd.prog 63 #[v.agg A cap, .int .i64 d, .pointer (some ⟨p, 0, none⟩)] w fun e w' =>
      e = .returned (.bool (decide (inV L d v))) ∧ (inV L d v → Blk w' p 3 #[.int .i64 ((L - v.nodes : Nat) : Int)]) ∧ Keep (fun _ k => k = p) w w'

set_option maxHeartbeats 1000000 in
theorem implKid (v : V) (hk : ImplValSaid v) (A : Option Addr) (cap L : Nat) (d : Int) (p gd gl : Nat) (W w : World) (hw : v.weight ≤ 1048576) (hL : L ≤ 300) (hd0 : 0 ≤ d) (hd1 : d ≤ 12) (hT : Tabs W) (hat : Vs.at_ W 0 W.heap.size v.kids A)
    (hb : Below W.heap.size W w) (hp : W.heap.size ≤ p) (hB : Blk w p 3 #[.int .i64 L]) (hBd : Blk w gd 3 #[.int .i64 d]) (hBl : Blk w gl 66 #[.pointer (some ⟨p, 0, none⟩)]) :
    Calls Tryd.prog 89 #[v.agg A cap, .pointer (some ⟨gd, 0, none⟩), .pointer (some ⟨gl, 0, none⟩)] w fun e w' =>
      e = .returned (.bool (!decide (inV L (d + 1) v))) ∧ (inV L (d + 1) v → Blk w' p 3 #[.int .i64 ((L - v.nodes : Nat) : Int)]) ∧ Keep (fun _ k => k = p) w w' := by
  have hd := hBd.cell 0
  have hl := hBl.cell 0
  have ld := hBd.lt
  have ll := hBl.lt
  have HC := Lib.hid (fun w' h1 h2 => hk A cap L (d + 1) p W w' hw hL (by omega) (by omega) hT hat h1 hp h2)
  have HB := Lib.hid hB
  have HW := Lib.hid hb
  have hbs := hb.size
  clear hk hT hat hB hBd hBl hb
  unfold V.agg
  unfold V.agg at HC
  go_enter Tryd.func89, Tryd.ntmps89
  go_wp2_with fail
  refine (HC.out _ (HW.out.alloc hbs _) (HB.out.alloc _)).mono ?_
  rintro e w1 ⟨rfl, h1, h2⟩
  have H1 := Lib.hid h1
  have H2 := Lib.hid ((keep_alloc1 (Keep.refl w) _).trans h2)
  clear h1 h2
  go_wp2_with fail
  go_ret
  exact ⟨rfl, H1.out, H2.out⟩

theorem kidEnters : ∀ (args : Array Value) (w : World), (callFunc 89 args).run Tryd.prog w = .ok (.enter 89 args) w :=
  enters_of Tryd.func89 (by kernel_rfl) rfl

/-- What holds behind j kids. -/
def KRel (l : List V) (L : Nat) (d : Int) (p : Nat) (w : World) (j : Nat) (wr : World) : Prop :=
  insV L d (l.take j) ∧ Blk wr p 3 #[.int .i64 ((L - Vs.nodes (l.take j) : Nat) : Int)] ∧ Keep (fun _ k => k = p) w wr

set_option maxHeartbeats 2000000 in
theorem implKids_index (l : List V) (hk : ∀ i (h : i < l.length), ImplValSaid l[i]) (A : Option Addr) (cap L : Nat) (d : Int) (p gd gl : Nat) (W w : World) (hw : Vs.weight l ≤ 1048576) (hL : L ≤ 300) (hd0 : 0 ≤ d) (hd1 : d ≤ 12) (hT : Tabs W) (hat : Vs.at_ W 0 W.heap.size l A)
    (hb : Below W.heap.size W w) (hp : W.heap.size ≤ p) (hB : Blk w p 3 #[.int .i64 L]) (hBd : Blk w gd 3 #[.int .i64 d]) (hBl : Blk w gl 66 #[.pointer (some ⟨p, 0, none⟩)]) (hgd : gd ≠ p) (hgl : gl ≠ p) :
    Calls Tryd.prog 99 #[.slice A l.length cap, .func (Fn.func 89) #[] #[.pointer (some ⟨gd, 0, none⟩), .pointer (some ⟨gl, 0, none⟩)]] w fun e w' =>
      ∃ r : Int, e = .returned (.int .i64 r) ∧ ((insV L d l ∧ r = -1 ∧ Blk w' p 3 #[.int .i64 ((L - Vs.nodes l : Nat) : Int)]) ∨ (¬ insV L d l ∧ 0 ≤ r)) ∧ Keep (fun _ k => k = p) w w' := by
  have hl : l.length ≤ 1048576 := by have := Vs.len_le l; omega
  have HC := Lib.hid (fun (i : Nat) (h : i < l.length) (A' : Option Addr) (c M : Nat) (w' : World) (h0 : M ≤ 300) (h1 : Vs.at_ W 0 W.heap.size (l[i]).kids A') (h2 : Below W.heap.size W w') (h3 : Blk w' p 3 #[.int .i64 M]) (h4 : Blk w' gd 3 #[.int .i64 d]) (h5 : Blk w' gl 66 #[.pointer (some ⟨p, 0, none⟩)]) => implKid l[i] (hk i h) A' c M d p gd gl W w' (by have := Vs.weight_get i h; omega) h0 hd0 hd1 hT h1 h2 hp h3 h4 h5)
  have HA := Lib.hid hat
  have HW := Lib.hid hb
  have hbs := hb.size
  have h0 : KRel l L d p w 0 w := ⟨⟨by simp [Vs.nodes], by simp [Vs.rightI]⟩, by simpa [Vs.nodes] using hB, Keep.refl w⟩
  have H0 := Lib.hid h0
  have HBD := Lib.hid hBd
  have HBL := Lib.hid hBl
  have hE := kidEnters
  clear hk hT hat hB hBd hBl hb h0
  go_enter Tryd.func99, Tryd.ntmps99
  go_wp2_with fail
  go_loopw [8] (fun i wr => ∃ j : Nat, j ≤ l.length ∧ i = .int .i64 j ∧ KRel l L d p w j wr) (fun i _ => l.length - (intOf i).toNat)
  case atStart => exact ⟨0, Nat.zero_le _, rfl, H0.out⟩
  case round =>
    obtain ⟨j, hj, rfl, hr⟩ := hrel
    have HR := Lib.hid hr
    clear hr
    by_cases hlt : j < l.length
    · have hbr : Below W.heap.size W wr := HR.out.2.2.below HW.out hbs (fun k hk => by omega)
      obtain ⟨b, off, A', cap', rfl, g1, g2, g3, ⟨c0, c1, c2, c3, c4⟩, g5⟩ := Vs.at_get j hlt (Vs.at_below HA.out hbr (Nat.le_refl _))
      have hg5 := (Vs.at_get j hlt HA.out)
      obtain ⟨b', off', A'', cap'', e1, _, _, _, ⟨_, _, _, _, d4⟩, g6⟩ := hg5
      injection e1 with e1
      injection e1 with e11 e12
      subst e11 e12
      have hsame : some (Value.slice A'' (l[j]).kids.length cap'') = some (Value.slice A' (l[j]).kids.length cap') := by rw [← d4, ← c4]; exact (hbr.cell g2).symm
      injection hsame with hsame
      injection hsame with hs1 hs2 hs3
      subst hs1
      have G6 := Lib.hid g6
      have HBR := Lib.hid hbr
      clear g5 g6 d4 hbr
      go_wp2_with fail
      refine (HC.out j hlt A'' cap' (L - Vs.nodes (l.take j)) wr (by omega) G6.out HBR.out HR.out.2.1 (HR.out.2.2.blk HBD.out hgd).1 (HR.out.2.2.blk HBL.out hgl).1).mono ?_
      rintro e w1 ⟨rfl, h1, h2⟩
      have H1 := Lib.hid h1
      have H2 := Lib.hid (HR.out.2.2.trans h2)
      clear h1 h2 c0 c1 c2 c3 c4
      by_cases hv : inV (L - Vs.nodes (l.take j)) (d + 1) l[j]
      · have HV := Lib.hid hv
        rw [show decide (inV (L - Vs.nodes (l.take j)) (d + 1) l[j]) = true from decide_eq_true hv]
        have hst : KRel l L d p w (j + 1) w1 := ⟨insV_step hlt HR.out.1 hv, by
          have h := H1.out hv
          rw [Vs.nodes_step l j hlt, ← Nat.sub_sub]
          exact h, H2.out⟩
        have HST := Lib.hid hst
        clear hv hst
        go_wp2_with fail
        go_roundw
        case rel => exact ⟨j + 1, by omega, by go_num, HST.out⟩
        case measure => simp [intOf]; omega
      · rw [show decide (inV (L - Vs.nodes (l.take j)) (d + 1) l[j]) = false from decide_eq_false hv]
        have HN := Lib.hid (insV_no hlt hv)
        clear hv
        go_wp2_with fail
        go_ret
        exact ⟨_, rfl, .inr ⟨HN.out, by omega⟩, H2.out⟩
    · obtain rfl : j = l.length := by omega
      go_wp2_with fail
      go_ret
      have h := HR.out
      unfold KRel at h
      rw [List.take_length] at h
      exact ⟨_, rfl, .inl ⟨h.1, rfl, h.2.1⟩, h.2.2⟩
end Go.Proofs.YtcjamnfboifjeaaDoor

/-
  The program's isValue and ValueOk, whole.
-/
namespace Go.Proofs.YtcjamnfboifjeaaDoor
open Go.RowKit
set_option linter.unusedVariables false
set_option maxRecDepth 100000
set_option linter.unusedSimpArgs false

theorem Keep.drewN {p : Nat} {a w : World} (h : Keep (fun _ k => k = p) a w) (n : Nat) : Keep (fun _ k => k = p) a (w.drewN n) := ⟨h.os, h.tape, h.output, h.size, h.block⟩
theorem keep_below {p : Nat} {a w w' : World} (h : Keep (fun _ k => k = p) a w) (hb : Below w.heap.size w w') : Keep (fun _ k => k = p) a w' :=
  ⟨hb.os.trans h.os, hb.tape.trans h.tape, hb.output.trans h.output, Nat.le_trans h.size hb.size, fun k hk hd => ⟨(hb.block k (Nat.lt_of_lt_of_le hk h.size)).trans (h.block k hk hd).1, hd⟩⟩
set_option maxHeartbeats 8000000 in
theorem implVal_step (v : V) (hk : ∀ i (h : i < v.kids.length), ImplValSaid v.kids[i]) : ImplValSaid v := by
  intro A cap L d p W w hw hL hd0 hd1 hT hat hb hp hB
  obtain ⟨hw1, hw2, hw3⟩ := V.weight_kids v
  have hnn : v.nodes ≤ 1048577 := by have := V.nodes_weight v; omega
  have hlt := hB.lt
  have hbs := hb.size
  have hl : v.kids.length ≤ 1048576 := by omega
  have c0 : ((((w.alloc (.cells #[.int .i64 v.k, .int .i64 v.n, .int .i64 v.e, .string v.s, .slice A v.kids.length cap] 28)).alloc (.cells #[.int .i64 d] 3)).alloc (.cells #[.pointer (some ⟨p, 0, none⟩)] 66))).cell? ⟨p, 0, none⟩ = some (.int .i64 L) := (((hB.alloc _).alloc _).alloc _).cell 0
  have f0 : ((((w.alloc (.cells #[.int .i64 v.k, .int .i64 v.n, .int .i64 v.e, .string v.s, .slice A v.kids.length cap] 28)).alloc (.cells #[.int .i64 d] 3)).alloc (.cells #[.pointer (some ⟨p, 0, none⟩)] 66))).frozen? ⟨p, 0, none⟩ = false := (((hB.alloc _).alloc _).alloc _).frozen 0
  have HB := Lib.hid hB
  have HW := Lib.hid hb
  have HT := Lib.hid hT
  have HA := Lib.hid hat
  have HC := Lib.hid hk
  have HF := Lib.hid (val_frame (w := w) (p := p) (tv := 28) (ti := 3) (tp := 66) (cs := #[.int .i64 v.k, .int .i64 v.n, .int .i64 v.e, .string v.s, .slice A v.kids.length cap]) (u' := .int .i64 ((L : Int) - 1)) (d := .int .i64 d) (q := .pointer (some ⟨p, 0, none⟩)) hB)
  clear hB hb hT hat hk
  unfold V.agg
  go_enter Tryd.func63, Tryd.ntmps63
  go_wp2_with fail
  obtain ⟨w3, hw3, Bv, Bd, Bl, Bp, K3⟩ := HF.out
  rw [← hw3]
  clear hw3 HF c0 f0
  have hbw3 : Below W.heap.size W w3 := K3.below HW.out hbs (fun k hk => by omega)
  have HW3 := Lib.hid hbw3
  have HK3 := Lib.hid K3
  have HBV := Lib.hid Bv
  have HBD := Lib.hid Bd
  have HBL := Lib.hid Bl
  have HBP := Lib.hid Bp
  have hs3 := K3.size
  have lv := Bv.lt
  have ld := Bd.lt
  have ll := Bl.lt
  have lp := Bp.lt
  obtain ⟨p0, p1, p2, p3, p4⟩ := Bv.five
  have q0 := Bd.cell 0
  have q1 := Bl.cell 0
  have q2 := Bp.cell 0
  clear K3 Bv Bd Bl Bp hbw3
  by_cases hL0 : L = 0
  · subst hL0
    have g1 : decide (((0 : Nat) : Int) - 1 < 0) = true := decide_eq_true (by omega)
    go_quiet (fail)
    go_wp2_with fail
    go_ret
    exact ⟨ret_bool (decide_eq_false inV_no1).symm, fun h => absurd h inV_no1, Keep.drewN HK3.out _⟩
  have g1 : decide ((L : Int) - 1 < 0) = false := decide_eq_false (by omega)
  by_cases hd : 12 < d
  · have g2 : decide (12 < d) = true := decide_eq_true hd
    go_quiet (fail)
    go_wp2_with fail
    go_ret
    exact ⟨ret_bool (decide_eq_false (inV_no2 hd)).symm, fun h => absurd h (inV_no2 hd), Keep.drewN HK3.out _⟩
  have g2 : decide (12 < d) = false := decide_eq_false hd
  by_cases hkl : (L : Int) - 1 < v.kids.length
  · have g3 : decide ((L : Int) - 1 < v.kids.length) = true := decide_eq_true hkl
    have HNO : Hid (¬ inV L d v) := Lib.hid (inV_no3 (by omega))
    go_quiet (fail)
    go_wp2_with fail
    go_ret
    exact ⟨ret_bool (decide_eq_false HNO.out).symm, fun h => absurd h HNO.out, Keep.drewN HK3.out _⟩
  have g3 : decide ((L : Int) - 1 < v.kids.length) = false := decide_eq_false hkl
  have keep0 : ∀ w' : World, Below w3.heap.size w3 w' → w'.cell? ⟨w.heap.size, 0, none⟩ = some (.int .i64 v.k) ∧ w'.cell? ⟨w.heap.size, 1, none⟩ = some (.int .i64 v.n) ∧ w'.cell? ⟨w.heap.size, 2, none⟩ = some (.int .i64 v.e) ∧ w'.cell? ⟨w.heap.size, 3, none⟩ = some (.string v.s) ∧ w'.cell? ⟨w.heap.size, 4, none⟩ = some (.slice A v.kids.length cap) ∧ w'.cell? ⟨w.heap.size + 1, 0, none⟩ = some (.int .i64 d) ∧ w'.cell? ⟨w.heap.size + 1 + 1, 0, none⟩ = some (.pointer (some ⟨p, 0, none⟩)) ∧ w'.cell? ⟨p, 0, none⟩ = some (.int .i64 ((L : Int) - 1)) ∧ Below w3.heap.size w3 w' := by
    intro w' hb
    obtain ⟨p0, p1, p2, p3, p4⟩ := (HBV.out.below hb lv).five
    exact ⟨p0, p1, p2, p3, p4, (HBD.out.below hb ld).cell 0, (HBL.out.below hb ll).cell 0, (HBP.out.below hb lp).cell 0, hb⟩
  have KE := Lib.hid keep0
  clear keep0
  have hb3 : Below w3.heap.size w3 w3 := Below.refl _ _
  have hL1 : 1 ≤ L := by omega
  by_cases hnode : nodeOk v
  · by_cases hkids : kidsI v
    · have HI := Lib.hid (inV_iff (L := L) (d := d) hL1 (by omega) hnode hkids)
      have HD1 := Lib.hid (decide_eq_true hnode)
      have HD2 := Lib.hid (decide_eq_true hkids)
      clear hnode hkids
      go_region_held3 (fun w' => w'.cell? ⟨w.heap.size, 0, none⟩ = some (.int .i64 v.k) ∧ w'.cell? ⟨w.heap.size, 1, none⟩ = some (.int .i64 v.n) ∧ w'.cell? ⟨w.heap.size, 2, none⟩ = some (.int .i64 v.e) ∧ w'.cell? ⟨w.heap.size, 3, none⟩ = some (.string v.s) ∧ w'.cell? ⟨w.heap.size, 4, none⟩ = some (.slice A v.kids.length cap) ∧ w'.cell? ⟨w.heap.size + 1, 0, none⟩ = some (.int .i64 d) ∧ w'.cell? ⟨w.heap.size + 1 + 1, 0, none⟩ = some (.pointer (some ⟨p, 0, none⟩)) ∧ w'.cell? ⟨p, 0, none⟩ = some (.int .i64 ((L : Int) - 1)) ∧ Below w3.heap.size w3 w') (first | exact KE.out _ hb6 | exact KE.out _ hb5 | exact KE.out _ hb3.drew | exact KE.out _ hb3)
        (first
        | (have hgate := hb5; clear hgate; go_at_call 87; refine (implKids v A cap w5 hnn (Vs.at_more (Nat.le_refl _) (Nat.le_trans (Nat.le_trans hbs hs3) hb5.size) _ _ (Vs.at_below HA.out (HW3.out.trans (hb5.mono (Nat.le_trans hbs hs3))) (Nat.le_refl _)))).mono ?_; rintro e w6 ⟨rfl, hb6'⟩; have hb6 := hb5.trans (hb6'.mono hb5.size); rw [HD2.out])
        | (go_at_call 86; refine (implNode v A cap w3.drew (by omega) (HT.out.below HW3.out.drew)).mono ?_; rintro e w5 ⟨rfl, hb5'⟩; have hb5 : Below w3.heap.size w3 w5 := hb3.drew.trans hb5'; rw [HD1.out]))
      obtain ⟨p0, p1, p2, p3, p4, q0, q1, q2, _⟩ := KE.out _ hb6
      have hb6W : Below W.heap.size W w6 := HW3.out.trans (hb6.mono (Nat.le_trans hbs hs3))
      have HB6 := Lib.hid hb6
      have HB6W := Lib.hid hb6W
      clear KE hb5 hb5' hb6' hb6 hb6W hb3
      go_wp2_with (go_at_call 88; go_in)
      refine (implKids_index v.kids HC.out A cap (L - 1) d p (w.heap.size + 1) (w.heap.size + 1 + 1) W w6 (by omega) (by omega) hd0 (by omega) HT.out HA.out HB6W.out hp (by have h := HBP.out.below HB6.out lp; rw [show (L : Int) - 1 = ((L - 1 : Nat) : Int) by omega] at h; exact h) (HBD.out.below HB6.out ld) (HBL.out.below HB6.out ll) (by omega) (by omega)).mono ?_
      rintro e w7 ⟨r, rfl, h1, h2⟩
      have HK7 := Lib.hid ((keep_below HK3.out HB6.out).trans h2)
      clear h2
      rcases h1 with ⟨hy, rfl, hblk⟩ | ⟨hn, h0⟩
      · have HY := Lib.hid (HI.out.2 hy)
        have HBK := Lib.hid hblk
        clear hy hblk
        go_wp2_with fail
        go_ret
        exact ⟨ret_bool (decide_eq_true HY.out).symm, fun _ => by
          have h := HBK.out
          rw [show L - 1 - Vs.nodes v.kids = L - v.nodes by rw [V.nodes_eq]; omega] at h
          exact h, HK7.out⟩
      · have HN := Lib.hid (fun h => hn (HI.out.1 h))
        clear hn
        go_wp2_with fail
        go_ret
        exact ⟨ret_bool (decide_eq_false HN.out).symm, fun h => absurd h HN.out, HK7.out⟩
    · have HN := Lib.hid (inV_no5 (L := L) (d := d) hkids)
      have HD1 := Lib.hid (decide_eq_true hnode)
      have HD2 := Lib.hid (decide_eq_false hkids)
      clear hnode hkids
      go_region_held3 (fun w' => w'.cell? ⟨w.heap.size, 0, none⟩ = some (.int .i64 v.k) ∧ w'.cell? ⟨w.heap.size, 1, none⟩ = some (.int .i64 v.n) ∧ w'.cell? ⟨w.heap.size, 2, none⟩ = some (.int .i64 v.e) ∧ w'.cell? ⟨w.heap.size, 3, none⟩ = some (.string v.s) ∧ w'.cell? ⟨w.heap.size, 4, none⟩ = some (.slice A v.kids.length cap) ∧ w'.cell? ⟨w.heap.size + 1, 0, none⟩ = some (.int .i64 d) ∧ w'.cell? ⟨w.heap.size + 1 + 1, 0, none⟩ = some (.pointer (some ⟨p, 0, none⟩)) ∧ w'.cell? ⟨p, 0, none⟩ = some (.int .i64 ((L : Int) - 1)) ∧ Below w3.heap.size w3 w') (first | exact KE.out _ hb6 | exact KE.out _ hb5 | exact KE.out _ hb3.drew | exact KE.out _ hb3)
        (first
        | (have hgate := hb5; clear hgate; go_at_call 87; refine (implKids v A cap w5 hnn (Vs.at_more (Nat.le_refl _) (Nat.le_trans (Nat.le_trans hbs hs3) hb5.size) _ _ (Vs.at_below HA.out (HW3.out.trans (hb5.mono (Nat.le_trans hbs hs3))) (Nat.le_refl _)))).mono ?_; rintro e w6 ⟨rfl, hb6'⟩; have hb6 := hb5.trans (hb6'.mono hb5.size); rw [HD2.out])
        | (go_at_call 86; refine (implNode v A cap w3.drew (by omega) (HT.out.below HW3.out.drew)).mono ?_; rintro e w5 ⟨rfl, hb5'⟩; have hb5 : Below w3.heap.size w3 w5 := hb3.drew.trans hb5'; rw [HD1.out]))
      have HB6 := Lib.hid hb6
      clear KE hb5 hb5' hb6' hb6 hb3
      go_wp2_with fail
      go_ret
      exact ⟨ret_bool (decide_eq_false HN.out).symm, fun h => absurd h HN.out, keep_below HK3.out HB6.out⟩
  · have HN := Lib.hid (inV_no4 (L := L) (d := d) hnode)
    have HD1 := Lib.hid (decide_eq_false hnode)
    clear hnode
    go_region_with (go_at_call 86; refine (implNode v A cap w3.drew (by omega) (HT.out.below HW3.out.drew)).mono ?_; rintro e w5 ⟨rfl, hb5'⟩; have hb5 : Below w3.heap.size w3 w5 := hb3.drew.trans hb5'; rw [HD1.out])
    all_goals
      have HB6 := Lib.hid hb5
      clear KE hb5 hb5' hb3
      go_wp2_with fail
      go_ret
      exact ⟨ret_bool (decide_eq_false HN.out).symm, fun h => absurd h HN.out, keep_below HK3.out HB6.out⟩
theorem implVal : ∀ v, ImplValSaid v := V.all implVal_step

set_option maxHeartbeats 1000000 in
theorem implValueOk (v : V) (A : Option Addr) (cap : Nat) (w : World) (hw : v.weight ≤ 1048576) (hT : Tabs w) (hat : Vs.at_ w 0 w.heap.size v.kids A) :
    Calls Tryd.prog 21 #[v.agg A cap] w fun e w' => e = .returned (.bool (decide (okV v))) ∧ Below w.heap.size w w' := by
  have HC := Lib.hid (fun (p : Nat) (w' : World) h1 (h2 : w.heap.size ≤ p) (h3 : Blk w' p 3 #[.int .i64 ((300 : Nat) : Int)]) => implVal v A cap 300 0 p w w' hw (Nat.le_refl _) (Int.le_refl _) (by omega) hT hat h1 h2 h3)
  have HI := Lib.hid (inV_okV v)
  clear hT hat
  unfold V.agg at HC
  unfold V.agg
  go_enter Tryd.func21, Tryd.ntmps21
  go_wp2_with fail
  have hb : Below w.heap.size w ((w.alloc (.cells #[.int .i64 v.k, .int .i64 v.n, .int .i64 v.e, .string v.s, .slice A v.kids.length cap] 28)).alloc (.cells #[.int .i64 300] 3)) := ((Below.refl _ w).alloc (Nat.le_refl _) _).alloc (by simp) _
  have hB := Blk.new (w.alloc (.cells #[.int .i64 v.k, .int .i64 v.n, .int .i64 v.e, .string v.s, .slice A v.kids.length cap] 28)) 3 #[.int .i64 300]
  refine (HC.out (w.heap.size + 1) _ hb (by omega) (by simpa using hB)).mono ?_
  rintro e w1 ⟨rfl, _, hk⟩
  have hb1 := hk.below hb (by simp; omega) (fun k hk => by omega)
  go_wp2_with fail
  go_ret
  exact ⟨ret_bool (decide_eq_decide.2 HI.out), hb1⟩
end Go.Proofs.YtcjamnfboifjeaaDoor
