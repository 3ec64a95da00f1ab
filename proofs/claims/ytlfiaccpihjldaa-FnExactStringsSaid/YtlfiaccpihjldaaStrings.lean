/-
  Strings of the reference and of the program: the texts and bytes in a value, in a row of their own.
-/
import Derived.Test.YtlfiaccpihjldaaCaps
import Derived.Test.YtlfiaccpihjldaaMarks
namespace Go.Proofs.Ytlfiaccpihjldaa
open Go.RowKit
set_option linter.unusedVariables false
set_option linter.unusedSimpArgs false

theorem infoStr' : (Try.prog.info? 9).map (fun i => (i.zero, i.size, i.bytes)) = some (some (.string ⟨#[]⟩), 1, 16) := by kernel_rfl
theorem one_tv (s : ByteArray) : ∀ u ∈ #[Value.string s].toList, u.oneCell' = true := by
  intro u hu; simp at hu; subst hu; rfl
theorem ones_tv (l : List ByteArray) : ∀ u ∈ l.map tv, u.oneCell' = true := by
  intro u hu
  obtain ⟨_, _, rfl⟩ := List.mem_map.1 hu
  rfl
/-- A value that holds a text or bytes. -/
def V.isT (v : V) : Bool := v.k == 5 || v.k == 6
/-- The texts and bytes of a list of values. -/
def textsOf (l : List V) : List ByteArray := (l.filter V.isT).map V.s
theorem textsOf_append (a b : List V) : textsOf (a ++ b) = textsOf a ++ textsOf b := by simp [textsOf]
theorem textsOf_yes {v : V} (l : List V) (h : v.isT = true) : textsOf (v :: l) = v.s :: textsOf l := by simp [textsOf, List.filter_cons, h]
theorem textsOf_no {v : V} (l : List V) (h : v.isT = false) : textsOf (v :: l) = textsOf l := by simp [textsOf, List.filter_cons, h]
theorem textsOf_len (l : List V) : (textsOf l).length ≤ l.length := by unfold textsOf; rw [List.length_map]; exact List.length_filter_le _ _
/-- The texts and bytes in a value. -/
def V.texts (v : V) : List ByteArray := textsOf v.pre
theorem texts_len (v : V) : v.texts.length ≤ v.nodes := by
  have h := textsOf_len v.pre
  rw [V.pre_len] at h
  exact h
theorem take_texts_len (l : List V) (j : Nat) : (textsOf (Vs.pre (l.take j))).length ≤ Vs.nodes l := by
  have h := textsOf_len (Vs.pre (l.take j))
  rw [Vs.pre_len] at h
  refine Nat.le_trans h ?_
  have : ∀ (a : List V) (i : Nat), Vs.nodes (a.take i) ≤ Vs.nodes a := by
    intro a
    induction a with
    | nil => intro i; simp
    | cons x a ih =>
      intro i
      cases i with
      | zero => simp [Vs.nodes]
      | succ i => simp only [List.take_succ_cons, Vs.nodes]; have := ih i; omega
  exact this l j
theorem texts_step (v : V) (j : Nat) (h : j < v.kids.length) : textsOf (v :: Vs.pre (v.kids.take (j + 1))) = textsOf (v :: Vs.pre (v.kids.take j)) ++ (v.kids[j]).texts := by
  rw [Vs.pre_step _ j h, ← List.cons_append, textsOf_append]
  rfl
theorem row_form0 {w : World} {base : Nat} {e : TypeId} {o : Value} {n : Nat} {xs : List Value} (h : w.ownsRow base e 1 o n xs) (h0 : o ≠ .slice none 0 0) : ∃ g c, o = .slice (some ⟨g, 0, none⟩) n c := by
  rcases h.2 with ⟨rfl, _⟩ | ⟨g, c, cur, rfl, _⟩
  · exact absurd rfl h0
  · exact ⟨g, c, rfl⟩

def SpecStringsSaid (v : V) : Prop := ∀ (A : Option Addr) (cap : Nat) (w : World), v.nodes ≤ 1048577 → Vs.at_ w 0 w.heap.size v.kids A →
    Calls Try.prog 22 #[v.agg A cap] w fun e w' => ∃ o, e = .returned o ∧ w'.ownsRow (w.heap.size + 1) 9 1 o v.texts.length (v.texts.map tv) ∧ o ≠ .slice none 0 0 ∧ Below w.heap.size w w'

/-- What holds behind j kids. -/
def StRel (v : V) (A : Option Addr) (cap : Nat) (w : World) (o i : Value) (wr : World) : Prop :=
  ∃ j : Nat, j ≤ v.kids.length ∧ i = .int .i64 j ∧ wr.ownsRow (w.heap.size + 1) 9 1 o (textsOf (v :: Vs.pre (v.kids.take j))).length ((textsOf (v :: Vs.pre (v.kids.take j))).map tv) ∧ o ≠ .slice none 0 0 ∧
    Blk wr w.heap.size 29 #[.int .i64 v.k, .int .i64 v.n, .int .i64 v.e, .string v.s, .slice A v.kids.length cap] ∧ Below w.heap.size w wr ∧ w.heap.size + 1 ≤ wr.heap.size

set_option maxHeartbeats 2000000 in
theorem specStrings_step (v : V) (hk : ∀ i (h : i < v.kids.length), SpecStringsSaid v.kids[i]) : SpecStringsSaid v := by
  intro A cap w hn hat
  have HTL := Lib.hid (texts_len v)
  have HTT := Lib.hid (show v.texts = textsOf (v :: Vs.pre v.kids) by unfold V.texts; rw [V.pre_eq])
  rw [V.nodes_eq] at hn
  have hl : v.kids.length ≤ 1048576 := by have := Vs.len_nodes v.kids; omega
  have HK := fun (i : Nat) (h : i < v.kids.length) (A' : Option Addr) (c : Nat) (w' : World) (h1 : Vs.at_ w' 0 w'.heap.size (v.kids[i]).kids A') => hk i h A' c w' (by have := Vs.nodes_get i h; omega) h1
  have HC := Lib.hid HK
  clear HK hk
  have HA := Lib.hid hat
  clear hat
  by_cases ht : v.isT = true
  · have HT := Lib.hid ht
    have hcase : (v.k == 5) = true ∨ ((v.k == 5) = false ∧ (v.k == 6) = true) := by
      unfold V.isT at ht
      cases h5 : (v.k == 5) with
      | true => exact .inl rfl
      | false => rw [h5] at ht; exact .inr ⟨rfl, by simpa using ht⟩
    clear ht
    have hown0 : ((w.alloc (.cells #[.int .i64 v.k, .int .i64 v.n, .int .i64 v.e, .string v.s, .slice A v.kids.length cap] 29)).alloc (.cells #[] 9)).ownsRow (w.heap.size + 1) 9 1 (.slice (some ⟨w.heap.size + 1, 0, none⟩) 0 0) 0 [] := by
      have h := own_empty' (w := w.alloc (.cells #[.int .i64 v.k, .int .i64 v.n, .int .i64 v.e, .string v.s, .slice A v.kids.length cap] 29)) (base := w.heap.size + 1) 9 1 (by simp)
      simpa using h
    have hcn : ∀ (j : Nat) (u : Value), #[Value.string v.s].toList[j]? = some u → (((w.alloc (.cells #[.int .i64 v.k, .int .i64 v.n, .int .i64 v.e, .string v.s, .slice A v.kids.length cap] 29)).alloc (.cells #[] 9)).alloc (.cells #[.string v.s] 9)).cell? ((⟨w.heap.size + 1 + 1, 0, none⟩ : Addr).add j) = some u := by
      intro j u hu
      have h := cells_new ((w.alloc (.cells #[.int .i64 v.k, .int .i64 v.n, .int .i64 v.e, .string v.s, .slice A v.kids.length cap] 29)).alloc (.cells #[] 9)) #[.string v.s] 9 j u hu
      rw [show ((w.alloc (.cells #[.int .i64 v.k, .int .i64 v.n, .int .i64 v.e, .string v.s, .slice A v.kids.length cap] 29)).alloc (.cells #[] 9)).heap.size = w.heap.size + 1 + 1 by simp] at h
      exact h
    have HCN := Lib.hid hcn
    have HO0 := Lib.hid hown0
    clear hcn hown0
    unfold V.agg
    rcases hcase with h5 | ⟨h5, h6⟩
    all_goals
      go_enter Try.func22, Try.ntmps22
      go_wp2_with (at_builtin; refine wpList_app3 rfl (.tmp 14) (.tmp 17) 34 rfl (w.heap.size + 1) 9 Try.underlying34 infoStr' rfl (by decide) (by rfl) (HO0.out.alloc _) (by simp) _ 1 1 _ (by rfl) rfl HCN.out (one_tv _) (by unfold maxLen; omega) (by omega) ?_; intro v' w' hown' hg' hv' hnil')
      have hE : textsOf (v :: Vs.pre (v.kids.take 0)) = [v.s] := by rw [textsOf_yes _ HT.out]; simp [Vs.pre, textsOf]
      have HEE := Lib.hid hE
      have hb0 : Below (w.heap.size + 1) (w.alloc (.cells #[.int .i64 v.k, .int .i64 v.n, .int .i64 v.e, .string v.s, .slice A v.kids.length cap] 29)) w' := by
        refine Below.grown (((Below.refl _ _).alloc (by simp) _).alloc (by simp) _) hg' (by simp) (fun k hk => by injection hk with e; subst e; simp)
      have hbz : w.heap.size + 1 ≤ w'.heap.size := by have := hb0.size; simpa using this
      clear hE
      go_loopw [3, 4] (fun o i wr => StRel v A cap w o i wr) (fun _ i _ => v.kids.length - (intOf i).toNat)
      case atStart => exact ⟨0, Nat.zero_le _, rfl, by rw [HEE.out]; simpa [tv] using hown', (fun h => by have := (hnil'.1 h).1; cases this), (Blk.new w _ _).below hb0 (Nat.lt_succ_self _), ((Below.refl _ w).alloc (Nat.le_refl _) _).trans (hb0.mono (Nat.le_succ _)), hbz⟩
      case round =>
        obtain ⟨j, hj, rfl, hown, hne, B, hb, hz⟩ := hrel
        obtain ⟨go, co, rfl⟩ := row_form0 hown hne
        have b4 : wr.cell? ⟨w.heap.size, 4, none⟩ = some (.slice A v.kids.length cap) := B.cell 4
        by_cases hlt : j < v.kids.length
        · have HST := Lib.hid (texts_step v j hlt)
          have hd4 := textsOf_len (v :: Vs.pre (v.kids.take j))
          have hd5 := texts_len v.kids[j]
          have hd6 := Vs.nodes_get j hlt
          have hd7 := take_texts_len v.kids j
          have hd8 : (textsOf (v :: Vs.pre (v.kids.take j))).length ≤ (textsOf (Vs.pre (v.kids.take j))).length + 1 := by
            cases hq : v.isT with
            | true => rw [textsOf_yes _ hq]; simp
            | false => rw [textsOf_no _ hq]; omega
          obtain ⟨b, off, A', cap', rfl, g1, g2, g3, ⟨c0, c1, c2, c3, c4⟩, g5⟩ := Vs.at_get j hlt (Vs.at_below HA.out hb (Nat.le_refl _))
          go_wp2_with fail
          refine (HC.out j hlt A' cap' _ (Vs.at_more (Nat.le_refl _) hb.size _ _ g5)).mono ?_
          rintro e w1 ⟨ok, rfl, hownk, hnek, hb1⟩
          obtain ⟨gk, ck, rfl⟩ := row_form0 hownk hnek
          have hbw : Below w.heap.size w w1 := hb.trans (hb1.mono hb.size)
          have B' := B.below hb1 B.lt
          have hown1 := own_below hown hb1
          have hz1 : w.heap.size + 1 ≤ w1.heap.size := Nat.le_trans hz hb1.size
          have hcells := hownk.cells rfl
          have HCE := Lib.hid hcells
          clear c0 c1 c2 c3 c4 b4 hcells hownk hown hb hb1
          go_wp2_with (at_builtin; refine wpList_app3 rfl (.tmp 26) (.tmp 32) 34 rfl (w.heap.size + 1) 9 Try.underlying34 infoStr' rfl (by decide) rfl hown1 hz1 _ _ ck _ rfl (by simp) HCE.out (ones_tv _) (by unfold maxLen; omega) (by omega) ?_; intro v' w' hown' hg' hv' hnil')
          have hB2 : Below (w.heap.size + 1) w1 w' := (Below.refl _ w1).grown hg' hz1 (fun k hk => (hown1.lt k hk).1)
          have hbw' := hbw.trans (hB2.mono (Nat.le_succ _))
          have B2 := B'.below hB2 (Nat.lt_succ_self _)
          go_roundw
          case rel => exact ⟨j + 1, by omega, by go_num, by rw [HST.out, List.length_append, List.map_append]; exact hown', (fun h => by have := (hnil'.1 h).1; cases this), B2, hbw', Nat.le_trans hz1 hg'.size⟩
          case measure => simp [intOf]; omega
        · obtain rfl : j = v.kids.length := by omega
          go_wp2_with fail
          go_ret
          refine ⟨_, rfl, ?_, hne, hb⟩
          rw [show v.texts = textsOf (v :: Vs.pre (v.kids.take v.kids.length)) by rw [HTT.out, List.take_length]]
          exact hown
  · have hF : v.isT = false := by simpa using ht
    have HT := Lib.hid hF
    have hcase : (v.k == 5) = false ∧ (v.k == 6) = false := by
      unfold V.isT at hF
      cases h5 : (v.k == 5) with
      | true => rw [h5] at hF; cases hF
      | false => rw [h5] at hF; exact ⟨rfl, by simpa using hF⟩
    obtain ⟨h5, h6⟩ := hcase
    clear ht hF
    unfold V.agg
    go_enter Try.func22, Try.ntmps22
    go_wp2_with fail
    have hE : textsOf (v :: Vs.pre (v.kids.take 0)) = [] := by rw [textsOf_no _ HT.out]; simp [Vs.pre, textsOf]
    have HEE := Lib.hid hE
    clear hE
    go_loopw [3, 4] (fun o i wr => StRel v A cap w o i wr) (fun _ i _ => v.kids.length - (intOf i).toNat)
    case atStart => exact ⟨0, Nat.zero_le _, rfl, by rw [HEE.out]; simpa using own_empty' (w := w.alloc (.cells #[.int .i64 v.k, .int .i64 v.n, .int .i64 v.e, .string v.s, .slice A v.kids.length cap] 29)) (base := w.heap.size + 1) 9 1 (by simp), by simp, (Blk.new w _ _).alloc _, ((Below.refl _ w).alloc (Nat.le_refl _) _).alloc (by simp) _, by simp⟩
    case round =>
      obtain ⟨j, hj, rfl, hown, hne, B, hb, hz⟩ := hrel
      obtain ⟨go, co, rfl⟩ := row_form0 hown hne
      have b4 : wr.cell? ⟨w.heap.size, 4, none⟩ = some (.slice A v.kids.length cap) := B.cell 4
      by_cases hlt : j < v.kids.length
      · have HST := Lib.hid (texts_step v j hlt)
        have hd4 := textsOf_len (v :: Vs.pre (v.kids.take j))
        have hd5 := texts_len v.kids[j]
        have hd6 := Vs.nodes_get j hlt
        have hd7 := take_texts_len v.kids j
        have hd8 : (textsOf (v :: Vs.pre (v.kids.take j))).length ≤ (textsOf (Vs.pre (v.kids.take j))).length + 1 := by
          cases hq : v.isT with
          | true => rw [textsOf_yes _ hq]; simp
          | false => rw [textsOf_no _ hq]; omega
        obtain ⟨b, off, A', cap', rfl, g1, g2, g3, ⟨c0, c1, c2, c3, c4⟩, g5⟩ := Vs.at_get j hlt (Vs.at_below HA.out hb (Nat.le_refl _))
        go_wp2_with fail
        refine (HC.out j hlt A' cap' _ (Vs.at_more (Nat.le_refl _) hb.size _ _ g5)).mono ?_
        rintro e w1 ⟨ok, rfl, hownk, hnek, hb1⟩
        obtain ⟨gk, ck, rfl⟩ := row_form0 hownk hnek
        have hbw : Below w.heap.size w w1 := hb.trans (hb1.mono hb.size)
        have B' := B.below hb1 B.lt
        have hown1 := own_below hown hb1
        have hz1 : w.heap.size + 1 ≤ w1.heap.size := Nat.le_trans hz hb1.size
        have hcells := hownk.cells rfl
        have HCE := Lib.hid hcells
        clear c0 c1 c2 c3 c4 b4 hcells hownk hown hb hb1
        go_wp2_with (at_builtin; refine wpList_app3 rfl (.tmp 26) (.tmp 32) 34 rfl (w.heap.size + 1) 9 Try.underlying34 infoStr' rfl (by decide) rfl hown1 hz1 _ _ ck _ rfl (by simp) HCE.out (ones_tv _) (by unfold maxLen; omega) (by omega) ?_; intro v' w' hown' hg' hv' hnil')
        have hB2 : Below (w.heap.size + 1) w1 w' := (Below.refl _ w1).grown hg' hz1 (fun k hk => (hown1.lt k hk).1)
        have hbw' := hbw.trans (hB2.mono (Nat.le_succ _))
        have B2 := B'.below hB2 (Nat.lt_succ_self _)
        go_roundw
        case rel => exact ⟨j + 1, by omega, by go_num, by rw [HST.out, List.length_append, List.map_append]; exact hown', (fun h => by have := (hnil'.1 h).1; cases this), B2, hbw', Nat.le_trans hz1 hg'.size⟩
        case measure => simp [intOf]; omega
      · obtain rfl : j = v.kids.length := by omega
        go_wp2_with fail
        go_ret
        refine ⟨_, rfl, ?_, hne, hb⟩
        rw [show v.texts = textsOf (v :: Vs.pre (v.kids.take v.kids.length)) by rw [HTT.out, List.take_length]]
        exact hown
theorem specStrings (v : V) : SpecStringsSaid v := V.all specStrings_step v
end Go.Proofs.Ytlfiaccpihjldaa
