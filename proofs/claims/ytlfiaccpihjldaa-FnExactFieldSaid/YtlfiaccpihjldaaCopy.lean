/-
  The copies of a value: l02Copy of the reference, own of the program: the same tree in new memory, each row in a block of its own.
-/
import Derived.Test.YtlfiaccpihjldaaRow
namespace Go.Proofs.Ytlfiaccpihjldaa
open Go.RowKit
set_option linter.unusedVariables false
set_option linter.unusedSimpArgs false

/-- What a copy hands back. -/
def Copied (v : V) (w : World) (e : Ending) (w' : World) : Prop := ∃ A' c' F, e = .returned (v.agg A' c') ∧ v.kids.length ≤ c' ∧ Vs.lies w' v.kids A' F ∧ F.Nodup ∧ (∀ c ∈ F, w.heap.size ≤ c) ∧ Below w.heap.size w w'
def CopySaid (v : V) : Prop := ∀ (A : Option Addr) (cap : Nat) (w : World), v.nodes ≤ 1048577 → Vs.at_ w 0 w.heap.size v.kids A →
    Calls Try.prog 45 #[v.agg A cap] w (Copied v w)
def CopyAllSaid (l : List V) : Prop := ∀ (A : Option Addr) (cap : Nat) (w : World), l.length ≤ 1048576 → Vs.nodes l ≤ 1048576 → Vs.at_ w 0 w.heap.size l A →
    Calls Try.prog 51 #[.slice A l.length cap] w fun e w' => ∃ A' c' F, e = .returned (.slice A' l.length c') ∧ l.length ≤ c' ∧ Vs.lies w' l A' F ∧ F.Nodup ∧ (∀ c ∈ F, w.heap.size ≤ c) ∧ Below w.heap.size w w'

/-- What the copying loops have laid. -/
def CpRel (l : List V) (w : World) (o i : Value) (wr : World) : Prop :=
  ∃ (j : Nat) (es : List Ent) (G : List Nat), j ≤ l.length ∧ i = .int .i64 j ∧ es.map (·.1) = l.take j ∧ RowOf wr w.heap.size o es G ∧ Below w.heap.size w wr
theorem cp_next {l : List V} {w wr w1 w' : World} {j : Nat} {es : List Ent} {G F : List Nat} {o v' : Value} (hj : j < l.length) (he : es.map (·.1) = l.take j) (hr : RowOf wr w.heap.size o es G) (hb : Below w.heap.size w wr) {A : Option Addr} {c : Nat}
    (hc : (l[j]).kids.length ≤ c) (hl : Vs.lies w1 (l[j]).kids A F) (hnd : F.Nodup) (hF : ∀ x ∈ F, wr.heap.size ≤ x) (hb1 : Below wr.heap.size wr w1) {w2 : World} (h2 : Below w1.heap.size w1 w2)
    (hown' : w'.ownsRow w.heap.size 29 5 v' (es.length + 1) (flat es ++ Ent.cells (l[j], A, c))) (hg : w2.grownBy w' o.ownBlock) (hv : v'.ownBlock = o.ownBlock ∨ v'.ownBlock = some w2.heap.size) :
    CpRel l w v' (.int .i64 ((j : Int) + 1)) w' := by
  have hr1 := hr.below (Nat.le_refl _) hb1
  have hlt := hr.lt
  have h := hr1.push hc hl hnd (fun x hx => Nat.le_trans hb.size (hF x hx)) (fun x hx hG => by have := hlt x hG; have := hF x hx; omega)
    (fun g hg' hx => by have := (hr.own.lt g hg').2; have := hF g hx; omega) h2 hown' hg hv
  refine ⟨j + 1, _, _, by omega, by go_num, ?_, h, ?_⟩
  · rw [List.map_append, he, List.take_succ_eq_append_getElem hj]; rfl
  · have hb3 := (hb.trans (hb1.mono hb.size)).trans (h2.mono (Nat.le_trans hb.size hb1.size))
    exact hb3.grown hg hb3.size (fun k hk => (hr.own.lt k hk).1)
theorem ent_ones (x : Ent) : ∀ u ∈ x.cells, u.oneCell' = true := by
  intro u hu
  simp [Ent.cells] at hu
  rcases hu with rfl | rfl | rfl | rfl | rfl <;> rfl

set_option maxHeartbeats 1000000 in
theorem copyAll_step (l : List V) (hk : ∀ i (h : i < l.length), CopySaid l[i]) : CopyAllSaid l := by
  intro A cap w hl hn hat
  have HK := fun (i : Nat) (h : i < l.length) (A' : Option Addr) (c : Nat) (w' : World) (hat' : Vs.at_ w' 0 w'.heap.size (l[i]).kids A') => hk i h A' c w' (by have := Vs.nodes_get i h; omega) hat'
  have HC := Lib.hid HK
  have HA := Lib.hid hat
  clear HK hk hat
  go_enter Try.func51, Try.ntmps51
  go_wp2_with fail
  go_loopw [3, 4] (fun o i wr => CpRel l w o i wr) (fun _ i _ => l.length - (intOf i).toNat)
  case atStart => exact ⟨0, [], [], Nat.zero_le _, rfl, rfl, RowOf.none (own_empty w _ _), (Below.refl _ _).alloc (Nat.le_refl _) _⟩
  case round =>
    obtain ⟨j, es, G, hj, rfl, he, hr, hb⟩ := hrel
    have hel : es.length = j := by have := congrArg List.length he; simpa [Nat.min_eq_left hj] using this
    have HE := Lib.hid he
    have HR := Lib.hid hr
    have HEL := Lib.hid hel
    clear he hr hel
    by_cases hlt : j < l.length
    · obtain ⟨b, off, A', cap', rfl, g1, g2, g3, ⟨c0, c1, c2, c3, c4⟩, g5⟩ := Vs.at_get j hlt (Vs.at_below HA.out hb (Nat.le_refl _))
      go_wp2_with fail
      refine (HC.out j hlt A' cap' _ (Vs.at_more (Nat.le_refl _) hb.size _ _ g5)).mono ?_
      rintro e w1 ⟨A2, c2', F, rfl, hc2, hl2, hnd2, hF2, hb1⟩
      have hr1 := (HR.out.below (Nat.le_refl _) hb1).own
      have hbw := hb.trans (hb1.mono hb.size)
      have hcn := cells_new w1 (Ent.cells (l[j], A2, c2')).toArray 29
      have HO := Lib.hid hr1
      have HN := Lib.hid hcn
      have HL2 := Lib.hid hl2
      have HND := Lib.hid hnd2
      have HF2 := Lib.hid hF2
      have hsmall : es.length ≤ 1048576 := by have := HEL.out; omega
      clear c0 c1 c2 c3 c4 hr1 hcn hl2 hnd2 hF2
      unfold V.agg
      go_wp2_with (at_builtin; refine wpList_app2 rfl (.tmp 12) (.tmp 18) 27 rfl w.heap.size 29 Try.underlying27 infoV rfl (by decide) rfl (HO.out.alloc _) (Nat.le_trans hbw.size (by simp)) _ 1 1 (Ent.cells (l[j], A2, c2')) rfl rfl HN.out (ent_ones _) (by unfold maxLen; omega) (by omega) ?_; intro v' w' hown' hg' hv')
      go_roundw
      case rel => exact cp_next hlt HE.out HR.out hb hc2 HL2.out HND.out HF2.out hb1 ((Below.refl _ w1).alloc (Nat.le_refl _) _) hown' hg' hv'
      case measure => simp [intOf]; omega
    · obtain rfl : j = l.length := by omega
      have HLL := Lib.hid (HR.out.lies)
      go_wp2_with fail
      go_ret
      obtain ⟨A2, c2, F, rfl, h2, h3, h4, h5⟩ := HLL.out
      rw [HE.out, List.take_length] at h3
      have h6 := HEL.out
      exact ⟨A2, c2, F, by rw [← h6]; rfl, by omega, h3, h4, h5, hb⟩

set_option maxHeartbeats 1000000 in
theorem copy_step (v : V) (hk : CopyAllSaid v.kids) : CopySaid v := by
  intro A cap w hn hat
  rw [V.nodes_eq] at hn
  have hl : v.kids.length ≤ 1048576 := by have := Vs.len_nodes v.kids; omega
  have HK := fun (c : Nat) (w' : World) (hat' : Vs.at_ w' 0 w'.heap.size v.kids A) => hk A c w' hl (by omega) hat'
  have HC := Lib.hid HK
  have HA := Lib.hid hat
  clear HK hk hat
  unfold V.agg
  go_enter Try.func45, Try.ntmps45
  go_wp2_with fail
  obtain ⟨w2, hw2⟩ : ∃ w2, w2 = ((w.alloc (.cells #[.int .i64 v.k, .int .i64 v.n, .int .i64 v.e, .string v.s, .slice A v.kids.length cap] 29)).alloc (.cells #[.int .i64 0, .int .i64 0, .int .i64 0, .string ⟨#[]⟩, .slice none 0 0] 29)).alloc (.cells #[.int .i64 v.k, .int .i64 v.n, .int .i64 v.e, .string v.s, .slice A v.kids.length cap] 29) := ⟨_, rfl⟩
  have z2 : w2.heap.size = w.heap.size + 3 := by rw [hw2]; simp
  have b2 : Below w.heap.size w w2 := by rw [hw2]; exact (((Below.refl _ w).alloc (Nat.le_refl _) _).alloc (by simp) _).alloc (by simp; omega) _
  have B1 : Blk w2 (w.heap.size + 1) 29 #[.int .i64 0, .int .i64 0, .int .i64 0, .string ⟨#[]⟩, .slice none 0 0] := by
    have h := (Blk.new (w.alloc (.cells #[.int .i64 v.k, .int .i64 v.n, .int .i64 v.e, .string v.s, .slice A v.kids.length cap] 29)) 29 #[.int .i64 0, .int .i64 0, .int .i64 0, .string ⟨#[]⟩, .slice none 0 0]).alloc (.cells #[.int .i64 v.k, .int .i64 v.n, .int .i64 v.e, .string v.s, .slice A v.kids.length cap] 29)
    rw [← hw2] at h
    simpa using h
  have B2 : Blk w2 (w.heap.size + 2) 29 #[.int .i64 v.k, .int .i64 v.n, .int .i64 v.e, .string v.s, .slice A v.kids.length cap] := by
    have h := Blk.new ((w.alloc (.cells #[.int .i64 v.k, .int .i64 v.n, .int .i64 v.e, .string v.s, .slice A v.kids.length cap] 29)).alloc (.cells #[.int .i64 0, .int .i64 0, .int .i64 0, .string ⟨#[]⟩, .slice none 0 0] 29)) 29 #[.int .i64 v.k, .int .i64 v.n, .int .i64 v.e, .string v.s, .slice A v.kids.length cap]
    rw [← hw2] at h
    simpa using h
  rw [← hw2]
  clear hw2
  refine (HC.out _ w2 (Vs.at_more (Nat.le_refl _) b2.size _ _ (Vs.at_below HA.out b2 (Nat.le_refl _)))).mono ?_
  rintro e w3 ⟨A', c', F, rfl, hc', hl3, hnd, hF, hb3⟩
  have B13 := B1.below hb3 (by omega)
  have B23 := B2.below hb3 (by omega)
  have hbw := b2.trans (hb3.mono b2.size)
  have z3 : w.heap.size + 3 ≤ w3.heap.size := by have := hb3.size; omega
  obtain ⟨p0, p1, p2, p3, p4⟩ := B13.five
  obtain ⟨q0, q1, q2, q3, q4⟩ := B23.five
  have f0 := B13.frozen 0
  have f1 := B13.frozen 1
  have f2 := B13.frozen 2
  have f3 := B13.frozen 3
  have f4 := B13.frozen 4
  have g4 := B23.frozen 4
  have HL := Lib.hid hl3
  have HND := Lib.hid hnd
  have HF := Lib.hid hF
  have HB := Lib.hid hbw
  clear hl3 hnd hF hbw hb3 b2 B1 B2 B13 B23
  go_wp2_with fail
  refine bodyPost_ret (v := .agg #[.int .i64 v.k, .int .i64 v.n, .int .i64 v.e, .string v.s, .slice A' v.kids.length c']) (by simp [results, Try.results45, go_sem, p0, p1, p2, p3, p4, q0, q1, q2, q3]) rfl ⟨A', c', F, rfl, hc', Vs.lies_same HL.out ⟨by simp, fun c hc => ?_⟩, HND.out, fun c hc => by have := HF.out c hc; omega, ?_⟩
  · have h1 : c ≠ w.heap.size + 1 := by have := HF.out c hc; omega
    have h2 : c ≠ w.heap.size + 2 := by have := HF.out c hc; omega
    simp only [Below.heap_setCell _ (⟨w.heap.size + 1, _, none⟩ : Addr) _ _ (show c ≠ _ from h1), Below.heap_setCell _ (⟨w.heap.size + 2, _, none⟩ : Addr) _ _ (show c ≠ _ from h2)]
  · repeat (refine Below.setCell ?_ (by simp; try omega) _)
    exact HB.out

theorem copy_all : ∀ (N : Nat), (∀ l : List V, Vs.nodes l ≤ N → CopyAllSaid l) := by
  intro N
  induction N with
  | zero =>
    intro l h
    refine copyAll_step l fun i hi => ?_
    have h1 := Vs.nodes_get i hi
    have h2 := V.nodes_pos l[i]
    omega
  | succ N ih =>
    intro l h
    refine copyAll_step l fun i hi => copy_step _ (ih _ ?_)
    have h1 := Vs.nodes_get i hi
    rw [V.nodes_eq] at h1
    omega
theorem specCopy (v : V) : CopySaid v := copy_step v (copy_all _ _ (Nat.le_refl _))

/-- What the program's copying loop has laid. -/
def OwRel (v : V) (w : World) (o i : Value) (wr : World) : Prop :=
  ∃ (j : Nat) (es : List Ent) (G : List Nat), j ≤ v.kids.length ∧ i = .int .i64 j ∧ es.map (·.1) = v.kids.take j ∧ RowOf wr (w.heap.size + 2) o es G ∧ Below w.heap.size w wr ∧ w.heap.size + 2 ≤ wr.heap.size
theorem ow_next {v : V} {w wr w1 w' : World} {j : Nat} {es : List Ent} {G F : List Nat} {o v' : Value} (hj : j < v.kids.length) (he : es.map (·.1) = v.kids.take j) (hr : RowOf wr (w.heap.size + 2) o es G) (hb : Below w.heap.size w wr) (hz : w.heap.size + 2 ≤ wr.heap.size) {A : Option Addr} {c : Nat}
    (hc : (v.kids[j]).kids.length ≤ c) (hl : Vs.lies w1 (v.kids[j]).kids A F) (hnd : F.Nodup) (hF : ∀ x ∈ F, wr.heap.size ≤ x) (hb1 : Below wr.heap.size wr w1) {w2 : World} (h2 : Below w1.heap.size w1 w2)
    (hown' : w'.ownsRow (w.heap.size + 2) 29 5 v' (es.length + 1) (flat es ++ Ent.cells (v.kids[j], A, c))) (hg : w2.grownBy w' o.ownBlock) (hv : v'.ownBlock = o.ownBlock ∨ v'.ownBlock = some w2.heap.size) :
    OwRel v w v' (.int .i64 ((j : Int) + 1)) w' := by
  have hr1 := hr.below (Nat.le_refl _) hb1
  have hlt := hr.lt
  have h := hr1.push hc hl hnd (fun x hx => Nat.le_trans hz (hF x hx)) (fun x hx hG => by have := hlt x hG; have := hF x hx; omega)
    (fun g hg' hx => by have := (hr.own.lt g hg').2; have := hF g hx; omega) h2 hown' hg hv
  refine ⟨j + 1, _, _, by omega, by go_num, ?_, h, ?_, Nat.le_trans hz (Nat.le_trans hb1.size (Nat.le_trans h2.size hg.size))⟩
  · rw [List.map_append, he, List.take_succ_eq_append_getElem hj]; rfl
  · have hb3 := (hb.trans (hb1.mono hb.size)).trans (h2.mono (Nat.le_trans hb.size hb1.size))
    exact hb3.grown hg hb3.size (fun k hk => by have := (hr.own.lt k hk).1; omega)
theorem own_up {w : World} {base base' e size n : Nat} {v : Value} {xs : List Value} (h : w.ownsRow base e size v n xs) (hb : ∀ g, v.ownBlock = some g → base' ≤ g) : w.ownsRow base' e size v n xs := by
  refine ⟨h.1, ?_⟩
  rcases h.2 with h' | ⟨g, c, cur, rfl, h1, h2⟩
  · exact .inl h'
  · exact .inr ⟨g, c, cur, rfl, hb g rfl, h2⟩

def OwnSaid (v : V) : Prop := ∀ (A : Option Addr) (cap : Nat) (w : World), v.nodes ≤ 1048577 → Vs.at_ w 0 w.heap.size v.kids A →
    Calls Try.prog 47 #[v.agg A cap] w (Copied v w)

set_option maxHeartbeats 2000000 in
theorem own_step (v : V) (hk : ∀ i (h : i < v.kids.length), OwnSaid v.kids[i]) : OwnSaid v := by
  intro A cap w hn hat
  rw [V.nodes_eq] at hn
  have hl : v.kids.length ≤ 1048576 := by have := Vs.len_nodes v.kids; omega
  have HK := fun (i : Nat) (h : i < v.kids.length) (A' : Option Addr) (c : Nat) (w' : World) (hat' : Vs.at_ w' 0 w'.heap.size (v.kids[i]).kids A') => hk i h A' c w' (by have := Vs.nodes_get i h; omega) hat'
  have HC := Lib.hid HK
  have HA := Lib.hid hat
  clear HK hk hat
  obtain ⟨i0, hi, hz0, hz1, hz2⟩ := info_parts infoV
  unfold V.agg
  by_cases h0 : v.kids.length = 0
  · have HZ := Lib.hid h0
    have he : ((v.kids.length : Int) == 0) = true := by simp [h0]
    clear h0
    go_enter Try.func47, Try.ntmps47
    go_wp2_with fail
    refine bodyPost_ret (v := .agg #[.int .i64 v.k, .int .i64 v.n, .int .i64 v.e, .string v.s, .slice none v.kids.length 0]) (by rw [HZ.out]; simp [results, Try.results47, go_sem]) rfl ⟨none, 0, [], rfl, by rw [HZ.out]; exact Nat.le_refl _, .inl ⟨List.eq_nil_of_length_eq_zero HZ.out, rfl⟩, List.nodup_nil, (fun c h => by cases h), ?_⟩
    repeat (refine Below.setCell ?_ (by simp; try omega) _)
    exact ((Below.refl _ w).alloc (Nat.le_refl _) _).alloc (by simp) _
  · have he : ((v.kids.length : Int) == 0) = false := by rw [beq_eq_false_iff_ne]; omega
    clear h0
    go_enter Try.func47, Try.ntmps47
    go_wp2_with (at_make; refine wpList_make_own _ rfl _ _ 27 rfl w.heap.size 29 i0 _ 5 Try.underlying27 hi hz0 hz1 _ _ _ v.kids.length rfl rfl (by omega) ?b1 ?b2 ?b3 ?_)
    case b1 => rw [hz2]; omega
    case b2 => unfold maxLen; omega
    case b3 => simp only [World.size_alloc]; omega
    intro w1 hown1 hg1
    have b1 : Below (w.heap.size + 2) ((w.alloc (.cells #[.int .i64 v.k, .int .i64 v.n, .int .i64 v.e, .string v.s, .slice A v.kids.length cap] 29)).alloc (.cells #[.int .i64 0, .int .i64 0, .int .i64 0, .string ⟨#[]⟩, .slice none 0 0] 29)) w1 := by
      have h := (Below.refl _ ((w.alloc (.cells #[.int .i64 v.k, .int .i64 v.n, .int .i64 v.e, .string v.s, .slice A v.kids.length cap] 29)).alloc (.cells #[.int .i64 0, .int .i64 0, .int .i64 0, .string ⟨#[]⟩, .slice none 0 0] 29))).grown hg1 (Nat.le_refl _) (fun k h => by cases h)
      simpa using h
    have z1 : w.heap.size + 2 ≤ w1.heap.size := by have := b1.size; simpa using this
    have B0 : Blk w1 w.heap.size 29 #[.int .i64 v.k, .int .i64 v.n, .int .i64 v.e, .string v.s, .slice A v.kids.length cap] := ((Blk.new w _ _).alloc _).below b1 (by omega)
    have B1 : Blk w1 (w.heap.size + 1) 29 #[.int .i64 0, .int .i64 0, .int .i64 0, .string ⟨#[]⟩, .slice none 0 0] := by
      have h := Blk.new (w.alloc (.cells #[.int .i64 v.k, .int .i64 v.n, .int .i64 v.e, .string v.s, .slice A v.kids.length cap] 29)) 29 #[.int .i64 0, .int .i64 0, .int .i64 0, .string ⟨#[]⟩, .slice none 0 0]
      have h2 : Blk ((w.alloc (.cells #[.int .i64 v.k, .int .i64 v.n, .int .i64 v.e, .string v.s, .slice A v.kids.length cap] 29)).alloc (.cells #[.int .i64 0, .int .i64 0, .int .i64 0, .string ⟨#[]⟩, .slice none 0 0] 29)) (w.heap.size + 1) 29 #[.int .i64 0, .int .i64 0, .int .i64 0, .string ⟨#[]⟩, .slice none 0 0] := by simpa using h
      exact h2.below b1 (by omega)
    have bw : Below w.heap.size w w1 := (((Below.refl _ w).alloc (Nat.le_refl _) _).alloc (by simp) _).trans (b1.mono (by omega))
    have own2 : w1.ownsRow (w.heap.size + 2) 29 5 (.slice (some ⟨w.heap.size + 1 + 1, 0, none⟩) 0 v.kids.length) 0 [] := own_up hown1 (fun g h => by simp [Value.ownBlock] at h; omega)
    obtain ⟨q0, q1, q2, q3, q4⟩ := B0.five
    have HB1 := Lib.hid b1
    have HBW := Lib.hid bw
    have HO1 := Lib.hid own2
    have HB0 := Lib.hid B0
    have HBB := Lib.hid B1
    clear hown1 hg1 b1 bw own2 B0 B1
    go_wp2_with fail
    go_loopw [3, 19] (fun o i wr => OwRel v w o i wr ∧ Blk wr w.heap.size 29 #[.int .i64 v.k, .int .i64 v.n, .int .i64 v.e, .string v.s, .slice A v.kids.length cap] ∧ Blk wr (w.heap.size + 1) 29 #[.int .i64 0, .int .i64 0, .int .i64 0, .string ⟨#[]⟩, .slice none 0 0]) (fun _ i _ => v.kids.length - (intOf i).toNat)
    case atStart => exact ⟨⟨0, [], [], Nat.zero_le _, rfl, rfl, RowOf.none HO1.out, HBW.out, z1⟩, HB0.out, HBB.out⟩
    case round =>
      obtain ⟨⟨j, es, G, hj, rfl, he2, hr, hb, hz⟩, B0, B1⟩ := hrel
      have hel : es.length = j := by have := congrArg List.length he2; simpa [Nat.min_eq_left hj] using this
      have HE := Lib.hid he2
      have HR := Lib.hid hr
      have HEL := Lib.hid hel
      have HB0 := Lib.hid B0
      have HBB := Lib.hid B1
      clear he2 hr hel B0 B1 q0 q1 q2 q3 q4
      by_cases hlt : j < v.kids.length
      · obtain ⟨b, off, A', cap', rfl, g1, g2, g3, ⟨c0, c1, c2, c3, c4⟩, g5⟩ := Vs.at_get j hlt (Vs.at_below HA.out hb (Nat.le_refl _))
        go_wp2_with fail
        refine (HC.out j hlt A' cap' _ (Vs.at_more (Nat.le_refl _) (by simp; omega) _ _ (Vs.at_alloc g5 hb.size _))).mono ?_
        rintro e w1 ⟨A2, c2', F, rfl, hc2, hl2, hnd2, hF2, hb1⟩
        have hb1' : Below wr.heap.size wr w1 := ((Below.refl _ wr).alloc (Nat.le_refl _) _).trans (hb1.mono (by simp))
        have hF2' : ∀ x ∈ F, wr.heap.size ≤ x := fun x hx => by have := hF2 x hx; simp at this; omega
        have hr1 := (HR.out.below (Nat.le_refl _) hb1').own
        have hbw := hb.trans (hb1'.mono hb.size)
        have hcn := cells_new w1 (Ent.cells (v.kids[j], A2, c2')).toArray 29
        have hz1 : w.heap.size + 2 ≤ w1.heap.size := Nat.le_trans hz hb1'.size
        have HO := Lib.hid hr1
        have HN := Lib.hid hcn
        have HL2 := Lib.hid hl2
        have HND := Lib.hid hnd2
        have HF2 := Lib.hid hF2'
        have HB0' := Lib.hid (HB0.out.below hb1' (by omega))
        have HBB' := Lib.hid (HBB.out.below hb1' (by omega))
        have hsmall : es.length ≤ 1048576 := by have := HEL.out; omega
        clear c0 c1 c2 c3 c4 hr1 hcn hl2 hnd2 hF2 hF2' hb1
        unfold V.agg
        go_wp2_with (at_builtin; refine wpList_app2 rfl (.tmp 23) (.tmp 26) 27 rfl (w.heap.size + 2) 29 Try.underlying27 infoV rfl (by decide) rfl (HO.out.alloc _) (Nat.le_trans hz1 (by simp)) _ 1 1 (Ent.cells (v.kids[j], A2, c2')) rfl rfl HN.out (ent_ones _) (by unfold maxLen; omega) (by omega) ?_; intro v' w' hown' hg' hv')
        have hB2 : Below (w.heap.size + 2) w1 w' := Below.grown ((Below.refl _ w1).alloc hz1 _) hg' (Nat.le_trans hz1 (by simp)) (fun k hk => (HO.out.lt k hk).1)
        go_roundw
        case rel => exact ⟨ow_next hlt HE.out HR.out hb hz hc2 HL2.out HND.out HF2.out hb1' ((Below.refl _ w1).alloc (Nat.le_refl _) _) hown' hg' hv', HB0'.out.below hB2 (by omega), HBB'.out.below hB2 (by omega)⟩
        case measure => simp [intOf]; omega
      · obtain rfl : j = v.kids.length := by omega
        obtain ⟨A2, c2, F, rfl, h2, h3, h4, h5⟩ := HR.out.lies
        rw [HE.out, List.take_length] at h3
        have h6 := HEL.out
        obtain ⟨q0, q1, q2, q3, q4⟩ := HB0.out.five
        obtain ⟨p0, p1, p2, p3, p4⟩ := HBB.out.five
        have k4 := HB0.out.frozen 4
        have f0 := HBB.out.frozen 0
        have f1 := HBB.out.frozen 1
        have f2 := HBB.out.frozen 2
        have f3 := HBB.out.frozen 3
        have f4 := HBB.out.frozen 4
        have HL := Lib.hid h3
        have HND := Lib.hid h4
        have HF := Lib.hid h5
        have HB := Lib.hid hb
        have H6 := Lib.hid h6
        have hc6 : v.kids.length ≤ c2 := by omega
        clear h3 h4 h5 h6 hb h2
        go_wp2_with fail
        refine bodyPost_ret (v := .agg #[.int .i64 v.k, .int .i64 v.n, .int .i64 v.e, .string v.s, .slice A2 es.length c2]) (by simp [results, Try.results47, go_sem, p0, p1, p2, p3, p4, q0, q1, q2, q3]) rfl ⟨A2, c2, F, by rw [H6.out]; rfl, hc6, Vs.lies_same HL.out ⟨by simp, fun c hc => ?_⟩, HND.out, fun c hc => by have := HF.out c hc; omega, ?_⟩
        · have h1 : c ≠ w.heap.size + 1 := by have := HF.out c hc; omega
          have h2 : c ≠ w.heap.size := by have := HF.out c hc; omega
          simp only [Below.heap_setCell _ (⟨w.heap.size + 1, _, none⟩ : Addr) _ _ (show c ≠ _ from h1), Below.heap_setCell _ (⟨w.heap.size, _, none⟩ : Addr) _ _ (show c ≠ _ from h2)]
        · repeat (refine Below.setCell ?_ (by simp; try omega) _)
          exact HB.out
theorem implOwn (v : V) : OwnSaid v := V.all own_step v
end Go.Proofs.Ytlfiaccpihjldaa
