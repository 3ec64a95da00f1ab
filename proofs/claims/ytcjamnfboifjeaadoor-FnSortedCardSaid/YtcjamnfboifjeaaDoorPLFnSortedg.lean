/-
  The texts on which the last one leans, part 7: Strings, Count, SrtM, MapP, Copy, SortI, SpecLess, SpecCmp.
-/
import Derived.Test.YtcjamnfboifjeaaDoorPLFnSortedf
import Derived.Handy
import Derived.StillTailTactics
/-
  Strings of the reference and of the program: the texts and bytes in a value, in a row of their own.
-/
namespace Go.Proofs.YtcjamnfboifjeaaDoor
open Go.RowKit
set_option linter.unusedVariables false
set_option linter.unusedSimpArgs false

theorem infoStr' : (Tryd.prog.info? 9).map (fun i => (i.zero, i.size, i.bytes)) = some (some (.string ⟨#[]⟩), 1, 16) := by kernel_rfl
theorem one_tv (s : ByteArray) : ∀ u ∈ #[Value.string s].toList, u.oneCell' = true := by
  intro u hu; simp at hu; subst hu; rfl
theorem ones_tv (l : List ByteArray) : ∀ u ∈ l.map tv, u.oneCell' = true := by
  intro u hu
  obtain ⟨_, _, rfl⟩ := List.mem_map.1 hu
  rfl
/-- A value that holds a text or bytes. -/
def V.isT (v : V) : Bool := v.k == 5 || v.k == 6
/-- The texts and bytes of a list of values. -/
def textsOf (l : List V) : List ByteArray := (l.filter V.isT).map V.s
theorem textsOf_append (a b : List V) : textsOf (a ++ b) = textsOf a ++ textsOf b := by simp [textsOf]
theorem textsOf_yes {v : V} (l : List V) (h : v.isT = true) : textsOf (v :: l) = v.s :: textsOf l := by simp [textsOf, List.filter_cons, h]
theorem textsOf_no {v : V} (l : List V) (h : v.isT = false) : textsOf (v :: l) = textsOf l := by simp [textsOf, List.filter_cons, h]
theorem textsOf_len (l : List V) : (textsOf l).length ≤ l.length := by unfold textsOf; rw [List.length_map]; exact List.length_filter_le _ _
/-- The texts and bytes in a value. -/
def V.texts (v : V) : List ByteArray := textsOf v.pre
theorem texts_len (v : V) : v.texts.length ≤ v.nodes := by
  have h := textsOf_len v.pre
  rw [V.pre_len] at h
  exact h
theorem take_texts_len (l : List V) (j : Nat) : (textsOf (Vs.pre (l.take j))).length ≤ Vs.nodes l := by
  have h := textsOf_len (Vs.pre (l.take j))
  rw [Vs.pre_len] at h
  refine Nat.le_trans h ?_
  have : ∀ (a : List V) (i : Nat), Vs.nodes (a.take i) ≤ Vs.nodes a := by
    intro a
    induction a with
    | nil => intro i; simp
    | cons x a ih =>
      intro i
      cases i with
      | zero => simp [Vs.nodes]
      | succ i => simp only [List.take_succ_cons, Vs.nodes]; have := ih i; omega
  exact this l j
theorem texts_step (v : V) (j : Nat) (h : j < v.kids.length) : textsOf (v :: Vs.pre (v.kids.take (j + 1))) = textsOf (v :: Vs.pre (v.kids.take j)) ++ (v.kids[j]).texts := by
  rw [Vs.pre_step _ j h, ← List.cons_append, textsOf_append]
  rfl
theorem row_form0 {w : World} {base : Nat} {e : TypeId} {o : Value} {n : Nat} {xs : List Value} (h : w.ownsRow base e 1 o n xs) (h0 : o ≠ .slice none 0 0) : ∃ g c, o = .slice (some ⟨g, 0, none⟩) n c := by
  rcases h.2 with ⟨rfl, _⟩ | ⟨g, c, cur, rfl, _⟩
  · exact absurd rfl h0
  · exact ⟨g, c, rfl⟩

def SpecStringsSaid (v : V) : Prop := ∀ (A : Option Addr) (cap : Nat) (w : World), v.nodes ≤ 1048577 → Vs.at_ w 0 w.heap.size v.kids A →
    Calls Tryd.prog 43 #[v.agg A cap] w fun e w' => ∃ o, e = .returned o ∧ w'.ownsRow (w.heap.size + 1) 9 1 o v.texts.length (v.texts.map tv) ∧ o ≠ .slice none 0 0 ∧ Below w.heap.size w w'

/-- What holds behind j kids. -/
def StRel (v : V) (A : Option Addr) (cap : Nat) (w : World) (o i : Value) (wr : World) : Prop :=
  ∃ j : Nat, j ≤ v.kids.length ∧ i = .int .i64 j ∧ wr.ownsRow (w.heap.size + 1) 9 1 o (textsOf (v :: Vs.pre (v.kids.take j))).length ((textsOf (v :: Vs.pre (v.kids.take j))).map tv) ∧ o ≠ .slice none 0 0 ∧
    Blk wr w.heap.size 28 #[.int .i64 v.k, .int .i64 v.n, .int .i64 v.e, .string v.s, .slice A v.kids.length cap] ∧ Below w.heap.size w wr ∧ w.heap.size + 1 ≤ wr.heap.size

set_option maxHeartbeats 2000000 in
theorem specStrings_step (v : V) (hk : ∀ i (h : i < v.kids.length), SpecStringsSaid v.kids[i]) : SpecStringsSaid v := by
  intro A cap w hn hat
  have HTL := Lib.hid (texts_len v)
  have HTT := Lib.hid (show v.texts = textsOf (v :: Vs.pre v.kids) by unfold V.texts; rw [V.pre_eq])
  rw [V.nodes_eq] at hn
  have hl : v.kids.length ≤ 1048576 := by have := Vs.len_nodes v.kids; omega
  have HK := fun (i : Nat) (h : i < v.kids.length) (A' : Option Addr) (c : Nat) (w' : World) (h1 : Vs.at_ w' 0 w'.heap.size (v.kids[i]).kids A') => hk i h A' c w' (by have := Vs.nodes_get i h; omega) h1
  have HC := Lib.hid HK
  clear HK hk
  have HA := Lib.hid hat
  clear hat
  by_cases ht : v.isT = true
  · have HT := Lib.hid ht
    have hcase : (v.k == 5) = true ∨ ((v.k == 5) = false ∧ (v.k == 6) = true) := by
      unfold V.isT at ht
      cases h5 : (v.k == 5) with
      | true => exact .inl rfl
      | false => rw [h5] at ht; exact .inr ⟨rfl, by simpa using ht⟩
    clear ht
    have hown0 : ((w.alloc (.cells #[.int .i64 v.k, .int .i64 v.n, .int .i64 v.e, .string v.s, .slice A v.kids.length cap] 28)).alloc (.cells #[] 9)).ownsRow (w.heap.size + 1) 9 1 (.slice (some ⟨w.heap.size + 1, 0, none⟩) 0 0) 0 [] := by
      have h := own_empty' (w := w.alloc (.cells #[.int .i64 v.k, .int .i64 v.n, .int .i64 v.e, .string v.s, .slice A v.kids.length cap] 28)) (base := w.heap.size + 1) 9 1 (by simp)
      simpa using h
    have hcn : ∀ (j : Nat) (u : Value), #[Value.string v.s].toList[j]? = some u → (((w.alloc (.cells #[.int .i64 v.k, .int .i64 v.n, .int .i64 v.e, .string v.s, .slice A v.kids.length cap] 28)).alloc (.cells #[] 9)).alloc (.cells #[.string v.s] 9)).cell? ((⟨w.heap.size + 1 + 1, 0, none⟩ : Addr).add j) = some u := by
      intro j u hu
      have h := cells_new ((w.alloc (.cells #[.int .i64 v.k, .int .i64 v.n, .int .i64 v.e, .string v.s, .slice A v.kids.length cap] 28)).alloc (.cells #[] 9)) #[.string v.s] 9 j u hu
      rw [show ((w.alloc (.cells #[.int .i64 v.k, .int .i64 v.n, .int .i64 v.e, .string v.s, .slice A v.kids.length cap] 28)).alloc (.cells #[] 9)).heap.size = w.heap.size + 1 + 1 by simp] at h
      exact h
    have HCN := Lib.hid hcn
    have HO0 := Lib.hid hown0
    clear hcn hown0
    unfold V.agg
    rcases hcase with h5 | ⟨h5, h6⟩
    all_goals
      go_enter Tryd.func43, Tryd.ntmps43
      go_wp2_with (at_builtin; refine wpList_app3 rfl (.tmp 14) (.tmp 17) 47 rfl (w.heap.size + 1) 9 Tryd.underlying47 infoStr' rfl (by decide) (by rfl) (HO0.out.alloc _) (by simp) _ 1 1 _ (by rfl) rfl HCN.out (one_tv _) (by unfold maxLen; omega) (by omega) ?_; intro v' w' hown' hg' hv' hnil')
      have hE : textsOf (v :: Vs.pre (v.kids.take 0)) = [v.s] := by rw [textsOf_yes _ HT.out]; simp [Vs.pre, textsOf]
      have HEE := Lib.hid hE
      have hb0 : Below (w.heap.size + 1) (w.alloc (.cells #[.int .i64 v.k, .int .i64 v.n, .int .i64 v.e, .string v.s, .slice A v.kids.length cap] 28)) w' := by
        refine Below.grown (((Below.refl _ _).alloc (by simp) _).alloc (by simp) _) hg' (by simp) (fun k hk => by injection hk with e; subst e; simp)
      have hbz : w.heap.size + 1 ≤ w'.heap.size := by have := hb0.size; simpa using this
      clear hE
      go_loopw [3, 4] (fun o i wr => StRel v A cap w o i wr) (fun _ i _ => v.kids.length - (intOf i).toNat)
      case atStart => exact ⟨0, Nat.zero_le _, rfl, by rw [HEE.out]; simpa [tv] using hown', (fun h => by have := (hnil'.1 h).1; cases this), (Blk.new w _ _).below hb0 (Nat.lt_succ_self _), ((Below.refl _ w).alloc (Nat.le_refl _) _).trans (hb0.mono (Nat.le_succ _)), hbz⟩
      case round =>
        obtain ⟨j, hj, rfl, hown, hne, B, hb, hz⟩ := hrel
        obtain ⟨go, co, rfl⟩ := row_form0 hown hne
        have b4 : wr.cell? ⟨w.heap.size, 4, none⟩ = some (.slice A v.kids.length cap) := B.cell 4
        by_cases hlt : j < v.kids.length
        · have HST := Lib.hid (texts_step v j hlt)
          have hd4 := textsOf_len (v :: Vs.pre (v.kids.take j))
          have hd5 := texts_len v.kids[j]
          have hd6 := Vs.nodes_get j hlt
          have hd7 := take_texts_len v.kids j
          have hd8 : (textsOf (v :: Vs.pre (v.kids.take j))).length ≤ (textsOf (Vs.pre (v.kids.take j))).length + 1 := by
            cases hq : v.isT with
            | true => rw [textsOf_yes _ hq]; simp
            | false => rw [textsOf_no _ hq]; omega
          obtain ⟨b, off, A', cap', rfl, g1, g2, g3, ⟨c0, c1, c2, c3, c4⟩, g5⟩ := Vs.at_get j hlt (Vs.at_below HA.out hb (Nat.le_refl _))
          go_wp2_with fail
          refine (HC.out j hlt A' cap' _ (Vs.at_more (Nat.le_refl _) hb.size _ _ g5)).mono ?_
          rintro e w1 ⟨ok, rfl, hownk, hnek, hb1⟩
          obtain ⟨gk, ck, rfl⟩ := row_form0 hownk hnek
          have hbw : Below w.heap.size w w1 := hb.trans (hb1.mono hb.size)
          have B' := B.below hb1 B.lt
          have hown1 := own_below hown hb1
          have hz1 : w.heap.size + 1 ≤ w1.heap.size := Nat.le_trans hz hb1.size
          have hcells := hownk.cells rfl
          have HCE := Lib.hid hcells
          clear c0 c1 c2 c3 c4 b4 hcells hownk hown hb hb1
          go_wp2_with (at_builtin; refine wpList_app3 rfl (.tmp 26) (.tmp 32) 47 rfl (w.heap.size + 1) 9 Tryd.underlying47 infoStr' rfl (by decide) rfl hown1 hz1 _ _ ck _ rfl (by simp) HCE.out (ones_tv _) (by unfold maxLen; omega) (by omega) ?_; intro v' w' hown' hg' hv' hnil')
          have hB2 : Below (w.heap.size + 1) w1 w' := (Below.refl _ w1).grown hg' hz1 (fun k hk => (hown1.lt k hk).1)
          have hbw' := hbw.trans (hB2.mono (Nat.le_succ _))
          have B2 := B'.below hB2 (Nat.lt_succ_self _)
          go_roundw
          case rel => exact ⟨j + 1, by omega, by go_num, by rw [HST.out, List.length_append, List.map_append]; exact hown', (fun h => by have := (hnil'.1 h).1; cases this), B2, hbw', Nat.le_trans hz1 hg'.size⟩
          case measure => simp [intOf]; omega
        · obtain rfl : j = v.kids.length := by omega
          go_wp2_with fail
          go_ret
          refine ⟨_, rfl, ?_, hne, hb⟩
          rw [show v.texts = textsOf (v :: Vs.pre (v.kids.take v.kids.length)) by rw [HTT.out, List.take_length]]
          exact hown
  · have hF : v.isT = false := by simpa using ht
    have HT := Lib.hid hF
    have hcase : (v.k == 5) = false ∧ (v.k == 6) = false := by
      unfold V.isT at hF
      cases h5 : (v.k == 5) with
      | true => rw [h5] at hF; cases hF
      | false => rw [h5] at hF; exact ⟨rfl, by simpa using hF⟩
    obtain ⟨h5, h6⟩ := hcase
    clear ht hF
    unfold V.agg
    go_enter Tryd.func43, Tryd.ntmps43
    go_wp2_with fail
    have hE : textsOf (v :: Vs.pre (v.kids.take 0)) = [] := by rw [textsOf_no _ HT.out]; simp [Vs.pre, textsOf]
    have HEE := Lib.hid hE
    clear hE
    go_loopw [3, 4] (fun o i wr => StRel v A cap w o i wr) (fun _ i _ => v.kids.length - (intOf i).toNat)
    case atStart => exact ⟨0, Nat.zero_le _, rfl, by rw [HEE.out]; simpa using own_empty' (w := w.alloc (.cells #[.int .i64 v.k, .int .i64 v.n, .int .i64 v.e, .string v.s, .slice A v.kids.length cap] 28)) (base := w.heap.size + 1) 9 1 (by simp), by simp, (Blk.new w _ _).alloc _, ((Below.refl _ w).alloc (Nat.le_refl _) _).alloc (by simp) _, by simp⟩
    case round =>
      obtain ⟨j, hj, rfl, hown, hne, B, hb, hz⟩ := hrel
      obtain ⟨go, co, rfl⟩ := row_form0 hown hne
      have b4 : wr.cell? ⟨w.heap.size, 4, none⟩ = some (.slice A v.kids.length cap) := B.cell 4
      by_cases hlt : j < v.kids.length
      · have HST := Lib.hid (texts_step v j hlt)
        have hd4 := textsOf_len (v :: Vs.pre (v.kids.take j))
        have hd5 := texts_len v.kids[j]
        have hd6 := Vs.nodes_get j hlt
        have hd7 := take_texts_len v.kids j
        have hd8 : (textsOf (v :: Vs.pre (v.kids.take j))).length ≤ (textsOf (Vs.pre (v.kids.take j))).length + 1 := by
          cases hq : v.isT with
          | true => rw [textsOf_yes _ hq]; simp
          | false => rw [textsOf_no _ hq]; omega
        obtain ⟨b, off, A', cap', rfl, g1, g2, g3, ⟨c0, c1, c2, c3, c4⟩, g5⟩ := Vs.at_get j hlt (Vs.at_below HA.out hb (Nat.le_refl _))
        go_wp2_with fail
        refine (HC.out j hlt A' cap' _ (Vs.at_more (Nat.le_refl _) hb.size _ _ g5)).mono ?_
        rintro e w1 ⟨ok, rfl, hownk, hnek, hb1⟩
        obtain ⟨gk, ck, rfl⟩ := row_form0 hownk hnek
        have hbw : Below w.heap.size w w1 := hb.trans (hb1.mono hb.size)
        have B' := B.below hb1 B.lt
        have hown1 := own_below hown hb1
        have hz1 : w.heap.size + 1 ≤ w1.heap.size := Nat.le_trans hz hb1.size
        have hcells := hownk.cells rfl
        have HCE := Lib.hid hcells
        clear c0 c1 c2 c3 c4 b4 hcells hownk hown hb hb1
        go_wp2_with (at_builtin; refine wpList_app3 rfl (.tmp 26) (.tmp 32) 47 rfl (w.heap.size + 1) 9 Tryd.underlying47 infoStr' rfl (by decide) rfl hown1 hz1 _ _ ck _ rfl (by simp) HCE.out (ones_tv _) (by unfold maxLen; omega) (by omega) ?_; intro v' w' hown' hg' hv' hnil')
        have hB2 : Below (w.heap.size + 1) w1 w' := (Below.refl _ w1).grown hg' hz1 (fun k hk => (hown1.lt k hk).1)
        have hbw' := hbw.trans (hB2.mono (Nat.le_succ _))
        have B2 := B'.below hB2 (Nat.lt_succ_self _)
        go_roundw
        case rel => exact ⟨j + 1, by omega, by go_num, by rw [HST.out, List.length_append, List.map_append]; exact hown', (fun h => by have := (hnil'.1 h).1; cases this), B2, hbw', Nat.le_trans hz1 hg'.size⟩
        case measure => simp [intOf]; omega
      · obtain rfl : j = v.kids.length := by omega
        go_wp2_with fail
        go_ret
        refine ⟨_, rfl, ?_, hne, hb⟩
        rw [show v.texts = textsOf (v :: Vs.pre (v.kids.take v.kids.length)) by rw [HTT.out, List.take_length]]
        exact hown
theorem specStrings (v : V) : SpecStringsSaid v := V.all specStrings_step v
end Go.Proofs.YtcjamnfboifjeaaDoor

/-
  Count: how many values of a kind there are in a value.
-/
namespace Go.Proofs.YtcjamnfboifjeaaDoor
open Go.RowKit
set_option linter.unusedVariables false
set_option linter.unusedSimpArgs false

/-- How many values of a list are of a kind. -/
def ofKind (kind : Int) (l : List V) : Nat := l.countP (fun x => decide (x.k = kind))
theorem ofKind_append (kind : Int) (a b : List V) : ofKind kind (a ++ b) = ofKind kind a + ofKind kind b := List.countP_append
theorem ofKind_len (kind : Int) (l : List V) : ofKind kind l ≤ l.length := List.countP_le_length
theorem ofKind_yes {kind : Int} {v : V} (l : List V) (h : v.k = kind) : ofKind kind (v :: l) = ofKind kind l + 1 := by unfold ofKind; rw [List.countP_cons_of_pos (by simpa using h)]
theorem ofKind_no {kind : Int} {v : V} (l : List V) (h : ¬ v.k = kind) : ofKind kind (v :: l) = ofKind kind l := by unfold ofKind; rw [List.countP_cons_of_neg (by simpa using h)]
theorem ofKind_step (kind : Int) (l : List V) (i : Nat) (h : i < l.length) : ofKind kind (Vs.pre (l.take (i + 1))) = ofKind kind (Vs.pre (l.take i)) + ofKind kind (l[i]).pre := by rw [Vs.pre_step l i h, ofKind_append]
theorem Vs.nodes_take' (l : List V) : ∀ i, Vs.nodes (l.take i) ≤ Vs.nodes l := by
  induction l with
  | nil => intro i; simp
  | cons a l ih =>
    intro i
    cases i with
    | zero => simp [Vs.nodes]
    | succ i => simp only [List.take_succ_cons, Vs.nodes]; have := ih i; omega
theorem ofKind_take (kind : Int) (l : List V) (i : Nat) : ofKind kind (Vs.pre (l.take i)) ≤ Vs.nodes l := by
  have h1 := ofKind_len kind (Vs.pre (l.take i))
  rw [Vs.pre_len] at h1
  exact Nat.le_trans h1 (Vs.nodes_take' l i)
theorem ofKind_one (kind : Int) (v : V) : ofKind kind v.pre ≤ v.nodes := by
  have h1 := ofKind_len kind v.pre
  rwa [V.pre_len] at h1

def SpecCountSaid (v : V) : Prop := ∀ (kind : Int) (A : Option Addr) (cap : Nat) (w : World), v.nodes ≤ 1048577 → Vs.at_ w 0 w.heap.size v.kids A →
    Calls Tryd.prog 42 #[v.agg A cap, .int .i64 kind] w fun e w' => e = .returned (.int .i64 (ofKind kind v.pre)) ∧ Below w.heap.size w w'

set_option maxHeartbeats 2000000 in
theorem specCount_step (v : V) (hk : ∀ i (h : i < v.kids.length), SpecCountSaid v.kids[i]) : SpecCountSaid v := by
  intro kind A cap w hn hat
  rw [V.nodes_eq] at hn
  have hl : v.kids.length ≤ 1048576 := by have := Vs.len_nodes v.kids; omega
  have HK := fun (i : Nat) (h : i < v.kids.length) (A' : Option Addr) (c : Nat) (w' : World) (h1 : Vs.at_ w' 0 w'.heap.size (v.kids[i]).kids A') => hk i h kind A' c w' (by have := Vs.nodes_get i h; omega) h1
  have HC := Lib.hid HK
  clear HK hk
  have HA := Lib.hid hat
  clear hat
  obtain ⟨b0, hb0, hd0, hle0⟩ : ∃ b0 : Nat, ofKind kind v.pre = b0 + ofKind kind (Vs.pre v.kids) ∧ ((v.k == kind) = true ∧ b0 = 1 ∨ (v.k == kind) = false ∧ b0 = 0) ∧ b0 ≤ 1 := by
    by_cases h : v.k = kind
    · exact ⟨1, by rw [V.pre_eq, ofKind_yes _ h]; omega, .inl ⟨by simpa using h, rfl⟩, Nat.le_refl _⟩
    · exact ⟨0, by rw [V.pre_eq, ofKind_no _ h]; omega, .inr ⟨by simpa using h, rfl⟩, by omega⟩
  have HB := Lib.hid hb0
  clear hb0
  unfold V.agg
  rcases hd0 with ⟨hd0, rfl⟩ | ⟨hd0, rfl⟩
  · go_enter Tryd.func42, Tryd.ntmps42
    go_wp2_with fail
    go_loopw [5, 6] (fun d i wr => ∃ j : Nat, j ≤ v.kids.length ∧ i = .int .i64 j ∧ d = .int .i64 ((ofKind kind (Vs.pre (v.kids.take j)) : Int) + 1) ∧ Blk wr w.heap.size 28 #[.int .i64 v.k, .int .i64 v.n, .int .i64 v.e, .string v.s, .slice A v.kids.length cap] ∧ Below w.heap.size w wr) (fun _ i _ => v.kids.length - (intOf i).toNat)
    case atStart => exact ⟨0, Nat.zero_le _, rfl, by simp [Vs.pre, ofKind, hd0], Blk.new _ _ _, (Below.refl _ _).alloc (Nat.le_refl _) _⟩
    case round =>
      obtain ⟨j, hj, rfl, rfl, B, hb⟩ := hrel
      have b4 : wr.cell? ⟨w.heap.size, 4, none⟩ = some (.slice A v.kids.length cap) := B.cell 4
      by_cases hlt : j < v.kids.length
      · have hst := ofKind_step kind v.kids j hlt
        have hd4 := ofKind_take kind v.kids j
        have hd5 := ofKind_one kind v.kids[j]
        have hd6 := Vs.nodes_get j hlt
        have HST := Lib.hid hst
        clear hst
        obtain ⟨b, off, A', cap', rfl, g1, g2, g3, ⟨c0, c1, c2, c3, c4⟩, g5⟩ := Vs.at_get j hlt (Vs.at_below HA.out hb (Nat.le_refl _))
        go_wp2_with fail
        refine (HC.out j hlt A' cap' _ (Vs.at_more (Nat.le_refl _) hb.size _ _ g5)).mono ?_
        rintro e w1 ⟨rfl, hb1⟩
        have hbw : Below w.heap.size w w1 := hb.trans (hb1.mono hb.size)
        have B' := B.below hb1 B.lt
        clear c0 c1 c2 c3 c4 b4
        go_wp2_with fail
        go_roundw
        case rel => exact ⟨j + 1, by omega, by go_num, by rw [HST.out]; go_num, B', hbw⟩
        case measure => simp [intOf]; omega
      · obtain rfl : j = v.kids.length := by omega
        have hd4 := ofKind_take kind v.kids v.kids.length
        rw [List.take_length] at hd4 ⊢
        go_wp2_with fail
        go_ret
        exact ⟨ret_num (by rw [HB.out]; omega), hb⟩
  · go_enter Tryd.func42, Tryd.ntmps42
    go_wp2_with fail
    go_loopw [5, 6] (fun d i wr => ∃ j : Nat, j ≤ v.kids.length ∧ i = .int .i64 j ∧ d = .int .i64 ((ofKind kind (Vs.pre (v.kids.take j)) : Int)) ∧ Blk wr w.heap.size 28 #[.int .i64 v.k, .int .i64 v.n, .int .i64 v.e, .string v.s, .slice A v.kids.length cap] ∧ Below w.heap.size w wr) (fun _ i _ => v.kids.length - (intOf i).toNat)
    case atStart => exact ⟨0, Nat.zero_le _, rfl, by simp [Vs.pre, ofKind, hd0], Blk.new _ _ _, (Below.refl _ _).alloc (Nat.le_refl _) _⟩
    case round =>
      obtain ⟨j, hj, rfl, rfl, B, hb⟩ := hrel
      have b4 : wr.cell? ⟨w.heap.size, 4, none⟩ = some (.slice A v.kids.length cap) := B.cell 4
      by_cases hlt : j < v.kids.length
      · have hst := ofKind_step kind v.kids j hlt
        have hd4 := ofKind_take kind v.kids j
        have hd5 := ofKind_one kind v.kids[j]
        have hd6 := Vs.nodes_get j hlt
        have HST := Lib.hid hst
        clear hst
        obtain ⟨b, off, A', cap', rfl, g1, g2, g3, ⟨c0, c1, c2, c3, c4⟩, g5⟩ := Vs.at_get j hlt (Vs.at_below HA.out hb (Nat.le_refl _))
        go_wp2_with fail
        refine (HC.out j hlt A' cap' _ (Vs.at_more (Nat.le_refl _) hb.size _ _ g5)).mono ?_
        rintro e w1 ⟨rfl, hb1⟩
        have hbw : Below w.heap.size w w1 := hb.trans (hb1.mono hb.size)
        have B' := B.below hb1 B.lt
        clear c0 c1 c2 c3 c4 b4
        go_wp2_with fail
        go_roundw
        case rel => exact ⟨j + 1, by omega, by go_num, by rw [HST.out]; go_num, B', hbw⟩
        case measure => simp [intOf]; omega
      · obtain rfl : j = v.kids.length := by omega
        have hd4 := ofKind_take kind v.kids v.kids.length
        rw [List.take_length] at hd4 ⊢
        go_wp2_with fail
        go_ret
        exact ⟨ret_num (by rw [HB.out]; omega), hb⟩
theorem specCount (v : V) : SpecCountSaid v := V.all specCount_step v

/-- The kind and the count that the walk's function holds. -/
def CountInv (kind : Int) (q g : Nat) (xs : List V) (w : World) : Prop := Blk w q 3 #[.int .i64 kind] ∧ Blk w g 3 #[.int .i64 (i64of (ofKind kind xs))] ∧ q ≠ g
theorem Blk.set_other {w : World} {q g : Nat} {t : TypeId} {cs : Array Value} (h : Blk w q t cs) (hq : q ≠ g) (u : Value) : Blk (w.setCell ⟨g, 0, none⟩ u) q t cs :=
  (Below.heap_setCell w ⟨g, 0, none⟩ u q (by simpa using hq)).trans h

set_option maxHeartbeats 1000000 in
theorem count_yields (kind : Int) (q g N : Nat) : Yields 72 #[.pointer (some ⟨q, 0, none⟩), .pointer (some ⟨g, 0, none⟩)] (CountInv kind q g) (fun _ k => k = g) N where
  enters := enters_of Tryd.func72 (by kernel_rfl) rfl
  alloc := fun xs w o h => ⟨⟨h.1.alloc o, h.2.1.alloc o, h.2.2⟩, fun k hk => ⟨hk, by subst hk; exact h.2.1.lt⟩⟩
  step := by
    intro xs x A c w hi hB hat hhi hD hn _
    obtain ⟨hQ, hB, hne⟩ := hB
    have hlt := hB.lt
    have hlq := hQ.lt
    have HB := Lib.hid hB
    have HQ := Lib.hid hQ
    have c0 : (w.alloc (.cells #[.int .i64 x.k, .int .i64 x.n, .int .i64 x.e, .string x.s, .slice A x.kids.length c] 28)).cell? ⟨g, 0, none⟩ = some (.int .i64 (i64of (ofKind kind xs))) := (hB.alloc _).cell 0
    have q0 : (w.alloc (.cells #[.int .i64 x.k, .int .i64 x.n, .int .i64 x.e, .string x.s, .slice A x.kids.length c] 28)).cell? ⟨q, 0, none⟩ = some (.int .i64 kind) := (hQ.alloc _).cell 0
    have f0 : (w.alloc (.cells #[.int .i64 x.k, .int .i64 x.n, .int .i64 x.e, .string x.s, .slice A x.kids.length c] 28)).frozen? ⟨g, 0, none⟩ = false := (hB.alloc _).frozen 0
    clear hB hQ hat hD
    unfold V.agg
    show Calls Tryd.prog 72 #[_, _, _] w _
    by_cases hk : x.k = kind
    · have hs : ofKind kind (xs ++ [x]) = ofKind kind xs + 1 := by rw [ofKind_append, ofKind_yes _ hk]; rfl
      replace hk : (x.k == kind) = true := by simpa using hk
      have HS := Lib.hid hs
      clear hs
      go_enter Tryd.func72, Tryd.ntmps72
      go_wp2_with fail
      go_end0
      refine ⟨rfl, ⟨(HQ.out.set_other hne _).alloc _, ?_, hne⟩, ?_⟩
      · have h := (HB.out.set1 (.int .i64 (i64of (ofKind kind (xs ++ [x]))))).alloc (.cells #[.int .i64 x.k, .int .i64 x.n, .int .i64 x.e, .string x.s, .slice A x.kids.length c] 28)
        rw [i64of_succ]
        rw [HS.out] at h ⊢
        exact h
      · exact keep_alloc1 (keep_set1 (Keep.refl w) _) _
    · have hs : ofKind kind (xs ++ [x]) = ofKind kind xs := by rw [ofKind_append, ofKind_no _ hk]; rfl
      replace hk : (x.k == kind) = false := by simpa using hk
      have HS := Lib.hid hs
      clear hs
      go_enter Tryd.func72, Tryd.ntmps72
      go_wp2_with fail
      go_end0
      refine ⟨rfl, ⟨HQ.out.alloc _, ?_, hne⟩, keep_alloc1 (Keep.refl w) _⟩
      rw [HS.out]
      exact HB.out.alloc _

set_option maxHeartbeats 1000000 in
theorem implCount (v : V) (kind : Int) (A : Option Addr) (cap : Nat) (w : World) (hn : v.nodes ≤ 1048577) (hat : Vs.at_ w 0 w.heap.size v.kids A) :
    Calls Tryd.prog 41 #[v.agg A cap, .int .i64 kind] w fun e w' => e = .returned (.int .i64 (ofKind kind v.pre)) ∧ Below w.heap.size w w' := by
  have HA := Lib.hid hat
  have HL := Lib.hid (ofKind_one kind v)
  clear hat
  unfold V.agg
  go_enter Tryd.func41, Tryd.ntmps41
  go_wp2_with fail
  have hQ := Blk.new (w.alloc (.cells #[.int .i64 v.k, .int .i64 v.n, .int .i64 v.e, .string v.s, .slice A v.kids.length cap] 28)) 3 #[.int .i64 kind]
  have hB := Blk.new ((w.alloc (.cells #[.int .i64 v.k, .int .i64 v.n, .int .i64 v.e, .string v.s, .slice A v.kids.length cap] 28)).alloc (.cells #[.int .i64 kind] 3)) 3 #[.int .i64 (i64of 0)]
  rw [i64of_zero] at hB
  refine (walk_any (count_yields kind (w.heap.size + 1) (w.heap.size + 2) v.nodes) v A cap [] _ w.heap.size ⟨by simpa using hQ.alloc _, by simpa [i64of_zero, ofKind] using hB, by omega⟩ (Vs.at_alloc (Vs.at_alloc (Vs.at_alloc HA.out (Nat.le_refl _) _) (by simp) _) (by simp; omega) _) (by simp; omega) (fun k hk => by omega) hn (by simp)).mono ?_
  rintro e w1 ⟨rfl, hi1, k1⟩
  have c1 := hi1.2.1.cell 0
  simp only [List.nil_append] at c1
  have hL := HL.out
  rw [i64of_small _ (by omega)] at c1
  go_wp2_with fail
  go_ret
  exact ⟨rfl, k1.below ((((Below.refl _ w).alloc (Nat.le_refl _) _).alloc (by simp) _).alloc (by simp; omega) _) (by simp; omega) (fun k hk => by omega)⟩
end Go.Proofs.YtcjamnfboifjeaaDoor

/-
  What sorting leaves as it is besides: the weight, the depth; how many texts a value has.
-/
namespace Go.Proofs.YtcjamnfboifjeaaDoor
open Go.RowKit
set_option linter.unusedVariables false
set_option linter.unusedSimpArgs false

theorem Vs.weight_sum (l : List V) : Vs.weight l = (l.map (fun v => v.weight + 1)).sum := by
  induction l with
  | nil => rfl
  | cons a l ih => simp only [Vs.weight, List.map_cons, List.sum_cons, ih]
theorem srt_s (v : V) : v.srt.s = v.s := by rw [V.srt_eq]; rfl
theorem srt_weight (v : V) : V.fitM v → v.srt.weight = v.weight := by
  refine V.all (P := fun v => V.fitM v → v.srt.weight = v.weight) (fun v hk h => ?_) v
  have hm := ((V.fitM_eq v).1 h).1
  rw [V.weight_eq, V.weight_eq v, srt_s, Vs.weight_sum, Vs.weight_sum v.kids, ((srt_perm hm).map (fun v => v.weight + 1)).sum_nat, List.map_map]
  congr 2
  exact map_same (f := (fun v => v.weight + 1) ∘ V.srt) (g := fun v => v.weight + 1) fun i hi => by
    have := hk i hi (fit_get h i hi)
    show (v.kids[i]).srt.weight + 1 = _
    rw [this]
theorem sortV_weight (v : V) : (sortV v).weight = v.weight := by
  unfold sortV
  by_cases h : okV v
  · rw [if_pos h, srt_weight v (fit_right v 12 h.1)]
  · rw [if_neg h]
theorem Vs.deep_iff (d : Nat) : ∀ l : List V, Vs.deep l ≤ d ↔ ∀ x ∈ l, x.deep + 1 ≤ d
  | [] => by simp [Vs.deep]
  | v :: r => by
    simp only [Vs.deep, List.mem_cons, forall_eq_or_imp]
    rw [← Vs.deep_iff d r]
    omega
theorem deep_perm {a b : List V} (h : a.Perm b) : Vs.deep a = Vs.deep b := by
  have h1 := (Vs.deep_iff (Vs.deep b) a).2 fun x hx => (Vs.deep_iff _ b).1 (Nat.le_refl _) x (h.mem_iff.1 hx)
  have h2 := (Vs.deep_iff (Vs.deep a) b).2 fun x hx => (Vs.deep_iff _ a).1 (Nat.le_refl _) x (h.mem_iff.2 hx)
  omega
theorem deep_map {f : V → V} : ∀ (l : List V), (∀ x ∈ l, (f x).deep = x.deep) → Vs.deep (l.map f) = Vs.deep l
  | [], _ => rfl
  | v :: r, h => by
    simp only [List.map_cons, Vs.deep]
    rw [h v List.mem_cons_self, deep_map r fun x hx => h x (List.mem_cons_of_mem _ hx)]
theorem srt_deep (v : V) : V.fitM v → v.srt.deep = v.deep := by
  refine V.all (P := fun v => V.fitM v → v.srt.deep = v.deep) (fun v hk h => ?_) v
  have hm := ((V.fitM_eq v).1 h).1
  rw [V.deep_eq, V.deep_eq v, deep_perm (srt_perm hm)]
  refine deep_map _ fun x hx => ?_
  obtain ⟨i, hi, rfl⟩ := List.getElem_of_mem hx
  exact hk i hi (fit_get h i hi)
theorem sortV_deep (v : V) : (sortV v).deep = v.deep := by
  unfold sortV
  by_cases h : okV v
  · rw [if_pos h, srt_deep v (fit_right v 12 h.1)]
  · rw [if_neg h]
/-- Texts and bytes are as many as there are values of the two kinds. -/
theorem textsOf_count : ∀ l : List V, (textsOf l).length = ofKind 5 l + ofKind 6 l
  | [] => rfl
  | v :: r => by
    have ih := textsOf_count r
    by_cases h5 : v.k = 5
    · rw [textsOf_yes r (by unfold V.isT; simp [h5]), ofKind_yes r h5, ofKind_no r (by omega), List.length_cons, ih]
      omega
    · by_cases h6 : v.k = 6
      · rw [textsOf_yes r (by unfold V.isT; simp [h6]), ofKind_no r h5, ofKind_yes r h6, List.length_cons, ih]
        omega
      · rw [textsOf_no r (by unfold V.isT; simp [h5, h6]), ofKind_no r h5, ofKind_no r h6, ih]
theorem texts_count (v : V) : v.texts.length = ofKind 5 v.pre + ofKind 6 v.pre := textsOf_count v.pre
end Go.Proofs.YtcjamnfboifjeaaDoor

/-
  Sorting a row of pairs, by the row that the caller owns.
-/
namespace Go.Proofs.YtcjamnfboifjeaaDoor
open Go.RowKit
set_option linter.unusedVariables false
set_option linter.unusedSimpArgs false
set_option maxRecDepth 100000

theorem sortPairs {base n c : Nat} {A : Option Addr} {D : List PEnt} {w : World} (ho : w.ownsRow base 79 10 (.slice A n c) n (flatP D)) (hn : n = D.length) (hd : n ≤ 450) (hD : ∀ x ∈ D, leafP x) :
    Calls Tryd.prog 75 #[.slice A n c, .func (Fn.func 76) #[] #[]] w fun e w' => e = .returned (.tuple #[]) ∧ ∃ Z, Z.Perm D ∧ Z.Pairwise kle ∧ (n = 0 ∨ ∃ g rest, A = some ⟨g, 0, none⟩ ∧ base ≤ g ∧ PRow w' g Z rest) ∧ Below base w w' := by
  rcases own_prow ho with h0 | ⟨g, rest, rfl, hg, hp⟩
  · subst h0
    refine (sortStable0 A c _ w).mono ?_
    rintro e w' ⟨rfl, rfl⟩
    have : D = [] := List.eq_nil_of_length_eq_zero hn.symm
    subst this
    exact ⟨rfl, [], List.Perm.refl _, List.Pairwise.nil, .inl rfl, Below.refl _ _⟩
  · have hb : base ≤ w.heap.size := by have := ho.lt g rfl; omega
    refine (sortStable g c D rest w n hp hD hn (by omega)).mono ?_
    rintro e w' ⟨rfl, Z, h1, h2, h3, h4⟩
    exact ⟨rfl, Z, h1, h2, .inr ⟨g, rest, rfl, hg, h3⟩, (Below.refl base w).grown h4 hb (fun k hk => by injection hk with hk; omega)⟩
/-- The empty map. -/
theorem mapOf0 (A : Option Addr) (c : Nat) (w : World) :
    Calls Tryd.prog 77 #[.slice A 0 c] w fun e w' => ∃ A2 cA, e = .returned (.agg #[.int .i64 8, .int .i64 0, .int .i64 0, .string ⟨#[]⟩, .slice A2 0 cA]) ∧ w'.ownsRow (w.heap.size + 2) 28 5 (.slice A2 0 cA) 0 [] ∧ Below w.heap.size w w' := by
  go_enter Tryd.func77, Tryd.ntmps77
  go_wp2_with fail
  go_rounds 1
  have R : Blk ((w.alloc (.cells #[.int .i64 8, .int .i64 0, .int .i64 0, .string ⟨#[]⟩, .slice none 0 0] 28)).alloc (.cells #[.int .i64 8, .int .i64 0, .int .i64 0, .string ⟨#[]⟩, .slice none 0 0] 28)) w.heap.size 28 #[.int .i64 8, .int .i64 0, .int .i64 0, .string ⟨#[]⟩, .slice none 0 0] := (Blk.new w _ _).alloc _
  have RW : Below w.heap.size w ((w.alloc (.cells #[.int .i64 8, .int .i64 0, .int .i64 0, .string ⟨#[]⟩, .slice none 0 0] 28)).alloc (.cells #[.int .i64 8, .int .i64 0, .int .i64 0, .string ⟨#[]⟩, .slice none 0 0] 28)) := ((Below.refl _ w).alloc (Nat.le_refl _) _).alloc (by simp) _
  generalize ((w.alloc (.cells #[.int .i64 8, .int .i64 0, .int .i64 0, .string ⟨#[]⟩, .slice none 0 0] 28)).alloc (.cells #[.int .i64 8, .int .i64 0, .int .i64 0, .string ⟨#[]⟩, .slice none 0 0] 28)) = w9 at R RW ⊢
  obtain ⟨c0, c1, c2, c3, c4⟩ := R.five
  exact bodyPost_ret (v := .agg #[.int .i64 8, .int .i64 0, .int .i64 0, .string ⟨#[]⟩, .slice none 0 0]) (by simp [results, Tryd.results77, go_sem, c0, c1, c2, c3, c4]) rfl ⟨none, 0, rfl, ⟨rfl, .inl ⟨rfl, rfl⟩⟩, RW⟩
theorem mapPairs {base n c : Nat} {A : Option Addr} {Z : List PEnt} {w : World} (hn : n = Z.length) (hd : n ≤ 450) (h : n = 0 ∨ ∃ g rest, A = some ⟨g, 0, none⟩ ∧ base ≤ g ∧ PRow w g Z rest) :
    Calls Tryd.prog 77 #[.slice A n c] w fun e w' => ∃ A2 cA, e = .returned (.agg #[.int .i64 8, .int .i64 0, .int .i64 0, .string ⟨#[]⟩, .slice A2 (2 * n) cA]) ∧ w'.ownsRow (w.heap.size + 2) 28 5 (.slice A2 (2 * n) cA) (2 * n) (flatP Z) ∧ Below w.heap.size w w' := by
  subst hn
  rcases h with h0 | ⟨g, rest, rfl, hg, hp⟩
  · have : Z = [] := List.eq_nil_of_length_eq_zero h0
    subst this
    exact mapOf0 A c w
  · exact mapOf Z g c rest w hd hp
end Go.Proofs.YtcjamnfboifjeaaDoor

/-
  The program's copy of a value, own: the same tree in new memory, each row in a block of its own.
-/
namespace Go.Proofs.YtcjamnfboifjeaaDoor
open Go.RowKit
set_option linter.unusedVariables false
set_option linter.unusedSimpArgs false

/-- What the program's copying loop has laid. -/
def OwRel (v : V) (w : World) (o i : Value) (wr : World) : Prop :=
  ∃ (j : Nat) (es : List Ent) (G : List Nat), j ≤ v.kids.length ∧ i = .int .i64 j ∧ es.map (·.1) = v.kids.take j ∧ RowOf wr (w.heap.size + 2) o es G ∧ Below w.heap.size w wr ∧ w.heap.size + 2 ≤ wr.heap.size
theorem ow_next {v : V} {w wr w1 w' : World} {j : Nat} {es : List Ent} {G F : List Nat} {o v' : Value} (hj : j < v.kids.length) (he : es.map (·.1) = v.kids.take j) (hr : RowOf wr (w.heap.size + 2) o es G) (hb : Below w.heap.size w wr) (hz : w.heap.size + 2 ≤ wr.heap.size) {A : Option Addr} {c : Nat}
    (hc : (v.kids[j]).kids.length ≤ c) (hl : Vs.lies w1 (v.kids[j]).kids A F) (hnd : F.Nodup) (hF : ∀ x ∈ F, wr.heap.size ≤ x) (hb1 : Below wr.heap.size wr w1) {w2 : World} (h2 : Below w1.heap.size w1 w2)
    (hown' : w'.ownsRow (w.heap.size + 2) 28 5 v' (es.length + 1) (flat es ++ Ent.cells (v.kids[j], A, c))) (hg : w2.grownBy w' o.ownBlock) (hv : v'.ownBlock = o.ownBlock ∨ v'.ownBlock = some w2.heap.size) :
    OwRel v w v' (.int .i64 ((j : Int) + 1)) w' := by
  have hr1 := hr.below (Nat.le_refl _) hb1
  have hlt := hr.lt
  have h := hr1.push hc hl hnd (fun x hx => Nat.le_trans hz (hF x hx)) (fun x hx hG => by have := hlt x hG; have := hF x hx; omega)
    (fun g hg' hx => by have := (hr.own.lt g hg').2; have := hF g hx; omega) h2 hown' hg hv
  refine ⟨j + 1, _, _, by omega, by go_num, ?_, h, ?_, Nat.le_trans hz (Nat.le_trans hb1.size (Nat.le_trans h2.size hg.size))⟩
  · rw [List.map_append, he, List.take_succ_eq_append_getElem hj]; rfl
  · have hb3 := (hb.trans (hb1.mono hb.size)).trans (h2.mono (Nat.le_trans hb.size hb1.size))
    exact hb3.grown hg hb3.size (fun k hk => by have := (hr.own.lt k hk).1; omega)
theorem own_up {w : World} {base base' e size n : Nat} {v : Value} {xs : List Value} (h : w.ownsRow base e size v n xs) (hb : ∀ g, v.ownBlock = some g → base' ≤ g) : w.ownsRow base' e size v n xs := by
  refine ⟨h.1, ?_⟩
  rcases h.2 with h' | ⟨g, c, cur, rfl, h1, h2⟩
  · exact .inl h'
  · exact .inr ⟨g, c, cur, rfl, hb g rfl, h2⟩

def OwnSaid (v : V) : Prop := ∀ (A : Option Addr) (cap : Nat) (w : World), v.nodes ≤ 1048577 → Vs.at_ w 0 w.heap.size v.kids A →
    Calls Tryd.prog 48 #[v.agg A cap] w (Copied v w)

set_option maxHeartbeats 2000000 in
theorem own_step (v : V) (hk : ∀ i (h : i < v.kids.length), OwnSaid v.kids[i]) : OwnSaid v := by
  intro A cap w hn hat
  rw [V.nodes_eq] at hn
  have hl : v.kids.length ≤ 1048576 := by have := Vs.len_nodes v.kids; omega
  have HK := fun (i : Nat) (h : i < v.kids.length) (A' : Option Addr) (c : Nat) (w' : World) (hat' : Vs.at_ w' 0 w'.heap.size (v.kids[i]).kids A') => hk i h A' c w' (by have := Vs.nodes_get i h; omega) hat'
  have HC := Lib.hid HK
  have HA := Lib.hid hat
  clear HK hk hat
  obtain ⟨i0, hi, hz0, hz1, hz2⟩ := info_parts infoV
  unfold V.agg
  by_cases h0 : v.kids.length = 0
  · have HZ := Lib.hid h0
    have he : ((v.kids.length : Int) == 0) = true := by simp [h0]
    clear h0
    go_enter Tryd.func48, Tryd.ntmps48
    go_wp2_with fail
    refine bodyPost_ret (v := .agg #[.int .i64 v.k, .int .i64 v.n, .int .i64 v.e, .string v.s, .slice none v.kids.length 0]) (by rw [HZ.out]; simp [results, Tryd.results48, go_sem]) rfl ⟨none, 0, [], rfl, by rw [HZ.out]; exact Nat.le_refl _, .inl ⟨List.eq_nil_of_length_eq_zero HZ.out, rfl⟩, List.nodup_nil, (fun c h => by cases h), ?_⟩
    repeat (refine Below.setCell ?_ (by simp; try omega) _)
    exact ((Below.refl _ w).alloc (Nat.le_refl _) _).alloc (by simp) _
  · have he : ((v.kids.length : Int) == 0) = false := by rw [beq_eq_false_iff_ne]; omega
    clear h0
    go_enter Tryd.func48, Tryd.ntmps48
    go_wp2_with (at_make; refine wpList_make_own _ rfl _ _ 26 rfl w.heap.size 28 i0 _ 5 Tryd.underlying26 hi hz0 hz1 _ _ _ v.kids.length rfl rfl (by omega) ?b1 ?b2 ?b3 ?_)
    case b1 => rw [hz2]; omega
    case b2 => unfold maxLen; omega
    case b3 => simp only [World.size_alloc]; omega
    intro w1 hown1 hg1
    have b1 : Below (w.heap.size + 2) ((w.alloc (.cells #[.int .i64 v.k, .int .i64 v.n, .int .i64 v.e, .string v.s, .slice A v.kids.length cap] 28)).alloc (.cells #[.int .i64 0, .int .i64 0, .int .i64 0, .string ⟨#[]⟩, .slice none 0 0] 28)) w1 := by
      have h := (Below.refl _ ((w.alloc (.cells #[.int .i64 v.k, .int .i64 v.n, .int .i64 v.e, .string v.s, .slice A v.kids.length cap] 28)).alloc (.cells #[.int .i64 0, .int .i64 0, .int .i64 0, .string ⟨#[]⟩, .slice none 0 0] 28))).grown hg1 (Nat.le_refl _) (fun k h => by cases h)
      simpa using h
    have z1 : w.heap.size + 2 ≤ w1.heap.size := by have := b1.size; simpa using this
    have B0 : Blk w1 w.heap.size 28 #[.int .i64 v.k, .int .i64 v.n, .int .i64 v.e, .string v.s, .slice A v.kids.length cap] := ((Blk.new w _ _).alloc _).below b1 (by omega)
    have B1 : Blk w1 (w.heap.size + 1) 28 #[.int .i64 0, .int .i64 0, .int .i64 0, .string ⟨#[]⟩, .slice none 0 0] := by
      have h := Blk.new (w.alloc (.cells #[.int .i64 v.k, .int .i64 v.n, .int .i64 v.e, .string v.s, .slice A v.kids.length cap] 28)) 28 #[.int .i64 0, .int .i64 0, .int .i64 0, .string ⟨#[]⟩, .slice none 0 0]
      have h2 : Blk ((w.alloc (.cells #[.int .i64 v.k, .int .i64 v.n, .int .i64 v.e, .string v.s, .slice A v.kids.length cap] 28)).alloc (.cells #[.int .i64 0, .int .i64 0, .int .i64 0, .string ⟨#[]⟩, .slice none 0 0] 28)) (w.heap.size + 1) 28 #[.int .i64 0, .int .i64 0, .int .i64 0, .string ⟨#[]⟩, .slice none 0 0] := by simpa using h
      exact h2.below b1 (by omega)
    have bw : Below w.heap.size w w1 := (((Below.refl _ w).alloc (Nat.le_refl _) _).alloc (by simp) _).trans (b1.mono (by omega))
    have own2 : w1.ownsRow (w.heap.size + 2) 28 5 (.slice (some ⟨w.heap.size + 1 + 1, 0, none⟩) 0 v.kids.length) 0 [] := own_up hown1 (fun g h => by simp [Value.ownBlock] at h; omega)
    obtain ⟨q0, q1, q2, q3, q4⟩ := B0.five
    have HB1 := Lib.hid b1
    have HBW := Lib.hid bw
    have HO1 := Lib.hid own2
    have HB0 := Lib.hid B0
    have HBB := Lib.hid B1
    clear hown1 hg1 b1 bw own2 B0 B1
    go_wp2_with fail
    go_loopw [3, 19] (fun o i wr => OwRel v w o i wr ∧ Blk wr w.heap.size 28 #[.int .i64 v.k, .int .i64 v.n, .int .i64 v.e, .string v.s, .slice A v.kids.length cap] ∧ Blk wr (w.heap.size + 1) 28 #[.int .i64 0, .int .i64 0, .int .i64 0, .string ⟨#[]⟩, .slice none 0 0]) (fun _ i _ => v.kids.length - (intOf i).toNat)
    case atStart => exact ⟨⟨0, [], [], Nat.zero_le _, rfl, rfl, RowOf.none HO1.out, HBW.out, z1⟩, HB0.out, HBB.out⟩
    case round =>
      obtain ⟨⟨j, es, G, hj, rfl, he2, hr, hb, hz⟩, B0, B1⟩ := hrel
      have hel : es.length = j := by have := congrArg List.length he2; simpa [Nat.min_eq_left hj] using this
      have HE := Lib.hid he2
      have HR := Lib.hid hr
      have HEL := Lib.hid hel
      have HB0 := Lib.hid B0
      have HBB := Lib.hid B1
      clear he2 hr hel B0 B1 q0 q1 q2 q3 q4
      by_cases hlt : j < v.kids.length
      · obtain ⟨b, off, A', cap', rfl, g1, g2, g3, ⟨c0, c1, c2, c3, c4⟩, g5⟩ := Vs.at_get j hlt (Vs.at_below HA.out hb (Nat.le_refl _))
        go_wp2_with fail
        refine (HC.out j hlt A' cap' _ (Vs.at_more (Nat.le_refl _) (by simp; omega) _ _ (Vs.at_alloc g5 hb.size _))).mono ?_
        rintro e w1 ⟨A2, c2', F, rfl, hc2, hl2, hnd2, hF2, hb1⟩
        have hb1' : Below wr.heap.size wr w1 := ((Below.refl _ wr).alloc (Nat.le_refl _) _).trans (hb1.mono (by simp))
        have hF2' : ∀ x ∈ F, wr.heap.size ≤ x := fun x hx => by have := hF2 x hx; simp at this; omega
        have hr1 := (HR.out.below (Nat.le_refl _) hb1').own
        have hbw := hb.trans (hb1'.mono hb.size)
        have hcn := cells_new w1 (Ent.cells (v.kids[j], A2, c2')).toArray 28
        have hz1 : w.heap.size + 2 ≤ w1.heap.size := Nat.le_trans hz hb1'.size
        have HO := Lib.hid hr1
        have HN := Lib.hid hcn
        have HL2 := Lib.hid hl2
        have HND := Lib.hid hnd2
        have HF2 := Lib.hid hF2'
        have HB0' := Lib.hid (HB0.out.below hb1' (by omega))
        have HBB' := Lib.hid (HBB.out.below hb1' (by omega))
        have hsmall : es.length ≤ 1048576 := by have := HEL.out; omega
        clear c0 c1 c2 c3 c4 hr1 hcn hl2 hnd2 hF2 hF2' hb1
        unfold V.agg
        go_wp2_with (at_builtin; refine wpList_app2 rfl (.tmp 23) (.tmp 26) 26 rfl (w.heap.size + 2) 28 Tryd.underlying26 infoV rfl (by decide) rfl (HO.out.alloc _) (Nat.le_trans hz1 (by simp)) _ 1 1 (Ent.cells (v.kids[j], A2, c2')) rfl rfl HN.out (ent_ones _) (by unfold maxLen; omega) (by omega) ?_; intro v' w' hown' hg' hv')
        have hB2 : Below (w.heap.size + 2) w1 w' := Below.grown ((Below.refl _ w1).alloc hz1 _) hg' (Nat.le_trans hz1 (by simp)) (fun k hk => (HO.out.lt k hk).1)
        go_roundw
        case rel => exact ⟨ow_next hlt HE.out HR.out hb hz hc2 HL2.out HND.out HF2.out hb1' ((Below.refl _ w1).alloc (Nat.le_refl _) _) hown' hg' hv', HB0'.out.below hB2 (by omega), HBB'.out.below hB2 (by omega)⟩
        case measure => simp [intOf]; omega
      · obtain rfl : j = v.kids.length := by omega
        obtain ⟨A2, c2, F, rfl, h2, h3, h4, h5⟩ := HR.out.lies
        rw [HE.out, List.take_length] at h3
        have h6 := HEL.out
        obtain ⟨q0, q1, q2, q3, q4⟩ := HB0.out.five
        obtain ⟨p0, p1, p2, p3, p4⟩ := HBB.out.five
        have k4 := HB0.out.frozen 4
        have f0 := HBB.out.frozen 0
        have f1 := HBB.out.frozen 1
        have f2 := HBB.out.frozen 2
        have f3 := HBB.out.frozen 3
        have f4 := HBB.out.frozen 4
        have HL := Lib.hid h3
        have HND := Lib.hid h4
        have HF := Lib.hid h5
        have HB := Lib.hid hb
        have H6 := Lib.hid h6
        have hc6 : v.kids.length ≤ c2 := by omega
        clear h3 h4 h5 h6 hb h2
        go_wp2_with fail
        refine bodyPost_ret (v := .agg #[.int .i64 v.k, .int .i64 v.n, .int .i64 v.e, .string v.s, .slice A2 es.length c2]) (by simp [results, Tryd.results48, go_sem, p0, p1, p2, p3, p4, q0, q1, q2, q3]) rfl ⟨A2, c2, F, by rw [H6.out]; rfl, hc6, Vs.lies_same HL.out ⟨by simp, fun c hc => ?_⟩, HND.out, fun c hc => by have := HF.out c hc; omega, ?_⟩
        · have h1 : c ≠ w.heap.size + 1 := by have := HF.out c hc; omega
          have h2 : c ≠ w.heap.size := by have := HF.out c hc; omega
          simp only [Below.heap_setCell _ (⟨w.heap.size + 1, _, none⟩ : Addr) _ _ (show c ≠ _ from h1), Below.heap_setCell _ (⟨w.heap.size, _, none⟩ : Addr) _ _ (show c ≠ _ from h2)]
        · repeat (refine Below.setCell ?_ (by simp; try omega) _)
          exact HB.out
theorem implOwn (v : V) : OwnSaid v := V.all own_step v
end Go.Proofs.YtcjamnfboifjeaaDoor

/-
  impl.sorted.
-/
namespace Go.Proofs.YtcjamnfboifjeaaDoor
open Go.RowKit
set_option linter.unusedVariables false
set_option linter.unusedSimpArgs false
set_option maxRecDepth 100000

def SrtSaid (v : V) : Prop := ∀ (A : Option Addr) (cap : Nat) (w : World), v.nodes ≤ 1048577 → V.fitM v → Vs.at_ w 0 w.heap.size v.kids A →
    Calls Tryd.prog 49 #[v.agg A cap] w (Copied v.srt w)
/-- What the loop has laid. -/
def SrRel (v : V) (A : Option Addr) (cap : Nat) (w : World) (i : Value) (wr : World) : Prop :=
  ∃ (j : Nat) (es : List Ent) (G : List Nat) (oA : Option Addr) (oc : Nat), i = .int .i64 (j : Int) ∧ j ≤ v.kids.length ∧ Hid (es.map (·.1) = (v.kids.take j).map V.srt) ∧ Hid (RowOf wr (w.heap.size + 3) (.slice oA es.length oc) es G) ∧ Hid (Blk wr w.heap.size 28 #[.int .i64 v.k, .int .i64 v.n, .int .i64 v.e, .string v.s, .slice A v.kids.length cap]) ∧ Hid (Blk wr (w.heap.size + 1) 28 #[.int .i64 0, .int .i64 0, .int .i64 0, .string ⟨#[]⟩, .slice none 0 0]) ∧ Hid (Blk wr (w.heap.size + 2) 28 #[.int .i64 v.k, .int .i64 v.n, .int .i64 v.e, .string v.s, .slice oA es.length oc]) ∧ Hid (Below w.heap.size w wr) ∧ Hid (w.heap.size + 3 ≤ wr.heap.size)
theorem sr_far {w wr w6 w7 w8 : World} {o : Value} {es : List Ent} {G : List Nat} (hr : RowOf wr (w.heap.size + 3) o es G) (h6 : Below wr.heap.size wr w6) (h7 : Below w6.heap.size w6 w7) (hg : w7.grownBy w8 o.ownBlock)
    {p : Nat} {cs : Array Value} (hp : p < w.heap.size + 3) (hB : Blk wr p 28 cs) : Blk w8 p 28 cs := by
  have e2 := (hB.below h6 hB.lt)
  have e3 := e2.below h7 e2.lt
  exact (hg.block _ e3.lt fun e => by have := (hr.own.lt _ e.symm).1; omega).trans e3
theorem SrRel.next {v : V} {A : Option Addr} {cap : Nat} {w wr w6 w7 w8 : World} {j : Nat} {es : List Ent} {G F : List Nat} {oA A2 : Option Addr} {oc g c2 c : Nat} (hj : j < v.kids.length) (he : es.map (·.1) = (v.kids.take j).map V.srt)
    (hr : RowOf wr (w.heap.size + 3) (.slice oA es.length oc) es G) (hB0 : Blk wr w.heap.size 28 #[.int .i64 v.k, .int .i64 v.n, .int .i64 v.e, .string v.s, .slice A v.kids.length cap]) (hB1 : Blk wr (w.heap.size + 1) 28 #[.int .i64 0, .int .i64 0, .int .i64 0, .string ⟨#[]⟩, .slice none 0 0]) (hB2 : Blk wr (w.heap.size + 2) 28 #[.int .i64 v.k, .int .i64 v.n, .int .i64 v.e, .string v.s, .slice oA es.length oc])
    (hW : Below w.heap.size w wr) (hS : w.heap.size + 3 ≤ wr.heap.size) (hc : (v.kids[j]).srt.kids.length ≤ c) (hl : Vs.lies w6 (v.kids[j]).srt.kids A2 F) (hnd : F.Nodup) (hF : ∀ x ∈ F, wr.heap.size ≤ x)
    (h6 : Below wr.heap.size wr w6) (h7 : Below w6.heap.size w6 w7) (hown' : w8.ownsRow (w.heap.size + 3) 28 5 (.slice (some ⟨g, 0, none⟩) (es.length + 1) c2) (es.length + 1) (flat es ++ Ent.cells ((v.kids[j]).srt, A2, c)))
    (hg : w7.grownBy w8 (Value.slice oA es.length oc).ownBlock) (hat : (Value.slice oA es.length oc).ownBlock = some g ∨ g = w7.heap.size) :
    SrRel v A cap w (.int .i64 ((j : Int) + 1)) (w8.setCell ⟨w.heap.size + 2, 4, none⟩ (.slice (some ⟨g, 0, none⟩) (es.length + 1) c2)) := by
  have hlt := hr.lt
  have f0 := sr_far hr h6 h7 hg (by omega) hB0
  have f1 := sr_far hr h6 h7 hg (by omega) hB1
  have f2 := sr_far hr h6 h7 hg (by omega) hB2
  have r2 := (hr.below (Nat.le_refl _) h6).push hc hl hnd (fun x hx => Nat.le_trans hS (hF x hx)) (fun x hx hG => by have := hlt x hG; have := hF x hx; omega)
    (fun g hg' hx => by have := (hr.own.lt g hg').2; have := hF g hx; omega) h7 hown' hg (by
      rcases hat with e | e
      · exact .inl e.symm
      · exact .inr (by rw [← e]; rfl))
  have z6 := h6.size
  have z7 := h7.size
  have z8 := hg.size
  have r3 := r2.gr (Gr.set (w.heap.size + 2) w8 4 (.slice (some ⟨g, 0, none⟩) (es.length + 1) c2)) (by omega)
  have hle : (es ++ [((v.kids[j]).srt, A2, c)]).length = es.length + 1 := by simp
  refine ⟨j + 1, es ++ [((v.kids[j]).srt, A2, c)], G ++ F, some ⟨g, 0, none⟩, c2, by go_num, hj, Lib.hid ?_, Lib.hid (by rw [hle]; exact r3), Lib.hid ?_, Lib.hid ?_, Lib.hid ?_, Lib.hid ?_, Lib.hid (by simp; omega)⟩
  · rw [List.map_append, he, List.take_succ_eq_append_getElem hj, List.map_append]; rfl
  · exact ((Gr.set (w.heap.size + 2) w8 4 _).block _ f0.lt (fun e => by injection e with e; omega)).trans f0
  · exact ((Gr.set (w.heap.size + 2) w8 4 _).block _ f1.lt (fun e => by injection e with e; omega)).trans f1
  · have h := f2.set 4 (.slice (some ⟨g, 0, none⟩) (es.length + 1) c2)
    rw [hle]
    simpa using h
  · exact (((hW.trans (h6.mono (by omega))).trans (h7.mono (by omega))).grown hg (by omega) (fun k hk => by have := (hr.own.lt k hk).1; omega)).setCell (by show w.heap.size ≤ w.heap.size + 2; omega) _
theorem sr_end {v : V} {w wr : World} {oA : Option Addr} {oc : Nat} {es : List Ent} {G : List Nat} {base : Nat} (he : v.srt = .mk v.k v.n v.e v.s (es.map (·.1))) (hr : RowOf wr base (.slice oA es.length oc) es G) (hb : w.heap.size ≤ base) (hW : Below w.heap.size w wr) :
    Copied v.srt w (.returned (.agg #[.int .i64 v.k, .int .i64 v.n, .int .i64 v.e, .string v.s, .slice oA es.length oc])) wr := by
  obtain ⟨A, c, F, e, h1, h2, h3, h4⟩ := hr.lies
  injection e with e1 e2 e3
  subst e1 e3
  refine ⟨oA, oc, F, ?_, ?_, ?_, h3, fun x hx => Nat.le_trans hb (h4 x hx), hW⟩
  · rw [he]
    simp [V.agg, V.k, V.n, V.e, V.s, V.kids]
  · rw [he]
    simpa [V.kids] using h1
  · rw [he]
    exact h2
theorem sr_map {v : V} {w wr w2 w9 : World} {oA A2 : Option Addr} {oc cA n : Nat} {es : List Ent} {G : List Nat} {Z : List PEnt} (hf : mapFit v) (h8 : v.k = 8) (he : es.map (·.1) = v.kids.map V.srt)
    (hr : RowOf wr (w.heap.size + 3) (.slice oA es.length oc) es G) (hS : w.heap.size + 3 ≤ wr.heap.size) (hZ : Z.Perm (pairsL es)) (hp : Z.Pairwise kle) (hn : n = Z.length) (hs : ∀ c ∈ G, w9.heap[c]? = wr.heap[c]?) (hsz : wr.heap.size ≤ w9.heap.size) (hw2 : wr.heap.size ≤ w2.heap.size)
    (ho : w9.ownsRow (w2.heap.size + 2) 28 5 (.slice A2 (2 * n) cA) (2 * n) (flatP Z)) (hW : Below w.heap.size w w9) :
    Copied v.srt w (.returned (.agg #[.int .i64 8, .int .i64 0, .int .i64 0, .string ⟨#[]⟩, .slice A2 (2 * n) cA])) w9 := by
  obtain ⟨hl, hev, _, _, hn0, he0, hs0⟩ := hf h8
  have hlen : es.length = v.kids.length := by have := congrArg List.length he; simpa using this
  have hL : (entsP Z).length = 2 * n := by rw [entsP_len, hn]
  have ho' : w9.ownsRow w.heap.size 28 5 (.slice A2 (2 * n) cA) (2 * n) (flatP Z) := own_up ho (fun g hg => by have := (ho.lt g hg).1; omega)
  rw [← hL] at ho'
  obtain ⟨G', hr'⟩ := sorted_row hr (by omega) hZ hs hsz (fun c hc => by have := hr.low c hc; omega) ho' (fun g hg hG => by
    have h1 := (ho'.lt g hg).1
    have h2 : w2.heap.size + 2 ≤ g := (ho.lt g (by rw [hL] at hg; exact hg)).1
    have := hr.lt g hG
    omega)
  have e : v.srt = .mk v.k v.n v.e v.s ((entsP Z).map (·.1)) := by rw [V.srt_eq, if_pos h8, (fit_keys hf h8 he).2 Z hZ hp]
  have h := sr_end e hr' (Nat.le_refl _) hW
  rw [h8, hn0, he0, hs0, hL] at h
  exact h
set_option maxHeartbeats 4000000 in
theorem srt_step (v : V) (hk : ∀ i (h : i < v.kids.length), SrtSaid v.kids[i]) : SrtSaid v := by
  intro A cap w hn hfit hat
  rw [V.nodes_eq] at hn
  have hl : v.kids.length ≤ 1048576 := by have := Vs.len_nodes v.kids; omega
  have HK := fun (i : Nat) (h : i < v.kids.length) (A' : Option Addr) (c : Nat) (w' : World) hf (hat' : Vs.at_ w' 0 w'.heap.size (v.kids[i]).kids A') => hk i h A' c w' (by have := Vs.nodes_get i h; omega) hf hat'
  have HC := Lib.hid HK
  have HA := Lib.hid hat
  have HF := Lib.hid hfit
  clear HK hk hat hfit
  unfold V.agg
  go_enter Tryd.func49, Tryd.ntmps49
  go_wp2_with fail
  obtain ⟨i0, hi, hz0, hz1, hz2⟩ := info_parts infoV
  go_loopw [12] (fun i wr => SrRel v A cap w i wr) (fun i _ => v.kids.length - (intOf i).toNat)
  case atStart =>
    refine ⟨0, [], [], none, 0, rfl, Nat.zero_le _, Lib.hid rfl, Lib.hid (RowOf.none ⟨rfl, .inl ⟨rfl, rfl⟩⟩), Lib.hid (((Blk.new w _ _).alloc _).alloc _), Lib.hid ?_, Lib.hid ?_, Lib.hid ((((Below.refl _ w).alloc (Nat.le_refl _) _).alloc (by simp) _).alloc (by simp; omega) _), Lib.hid (by simp)⟩
    · have h := (Blk.new (w.alloc (.cells #[.int .i64 v.k, .int .i64 v.n, .int .i64 v.e, .string v.s, .slice A v.kids.length cap] 28)) 28 #[.int .i64 0, .int .i64 0, .int .i64 0, .string ⟨#[]⟩, .slice none 0 0]).alloc (.cells #[.int .i64 v.k, .int .i64 v.n, .int .i64 v.e, .string v.s, .slice none 0 0] 28)
      simpa using h
    · have h := Blk.new ((w.alloc (.cells #[.int .i64 v.k, .int .i64 v.n, .int .i64 v.e, .string v.s, .slice A v.kids.length cap] 28)).alloc (.cells #[.int .i64 0, .int .i64 0, .int .i64 0, .string ⟨#[]⟩, .slice none 0 0] 28)) 28 #[.int .i64 v.k, .int .i64 v.n, .int .i64 v.e, .string v.s, .slice none 0 0]
      simpa using h
  case round =>
    obtain ⟨j, es, G, oA, oc, rfl, hj, HE, HR, HB0, HB1, HB2, HW, HS⟩ := hrel
    by_cases hlt : j < v.kids.length
    · have hlt2 : (j : Int) < (v.kids.length : Int) := by omega
      have HFK : (v.kids[j]).fitM := fit_get HF.out j hlt
      obtain ⟨b, off, A', cap', rfl, g1, g2, g3, ⟨c0, c1, c2, c3, c4⟩, g5⟩ := Vs.at_get j hlt (Vs.at_below HA.out HW.out (Nat.le_refl _))
      go_upto_region 6 with fail
      generalize hw5 : wr.alloc _ = w5
      have HQ : Blk w5 wr.heap.size 28 #[.int .i64 v.kids[j].k, .int .i64 v.kids[j].n, .int .i64 v.kids[j].e, .string v.kids[j].s, .slice A' v.kids[j].kids.length cap'] := by rw [← hw5]; exact Blk.new wr 28 _
      have H5 : Hid (Below wr.heap.size wr w5) := Lib.hid (by rw [← hw5]; exact (Below.refl _ _).alloc (Nat.le_refl _) _)
      have hz5 : wr.heap.size < w5.heap.size := HQ.lt
      obtain ⟨y0, y1, y2, y3, y4⟩ := HQ.five
      have B5 : Hid (Blk w5 (w.heap.size + 1 + 1) 28 #[.int .i64 v.k, .int .i64 v.n, .int .i64 v.e, .string v.s, .slice oA es.length oc]) := Lib.hid (HB2.out.below H5.out (by have := HS.out; omega))
      have b4 := (B5.out.five).2.2.2.2
      have HK5 := Lib.hid (fun (W : World) (h : W = w5.drew) => (HC.out j hlt A' cap' W HFK (by rw [h]; exact Vs.at_drew (Vs.at_more (Nat.le_refl _) (by have := HW.out.size; have := H5.out.size; show w.heap.size ≤ w5.heap.size; omega) _ _ (Vs.at_below g5 H5.out HW.out.size)))))
      have hel : es.length ≤ 1048576 := by have := congrArg List.length HE.out; simp at this; omega
      clear c0 c1 c2 c3 c4 HQ hw5
      unfold V.agg at HK5
      go_region_law (first
        | (refine step_append_lies _ (by rfl) (.tmp 17) (.tmp 20) 26 (by rfl) (w.heap.size + 3) 28 i0 _ 5 64 Tryd.underlying26 hi hz0 hz1 hz2 (by rfl) (by omega) (.slice oA es.length oc) es.length (flat es) (by rfl) (HO.out.alloc _) ⟨w6.heap.size, 0, none⟩ 1 1 (Ent.cells (v.kids[j].srt, A2, c2)) (by rfl) (by rfl) HN.out (ent_ones _) (by omega) (by unfold maxLen; omega) (by omega) (by simp; omega) _ rfl ?_
           intro g c' w8 hown' hgr hat' hlt'
           have B8 := Lib.hid (sr_far HR.out H6.out ((Below.refl _ _).alloc (Nat.le_refl _) _) hgr (by omega) HB2.out)
           have q4 : w8.cell? ⟨w.heap.size + 1 + 1, 4, none⟩ = _ := (B8.out.five).2.2.2.2
           have e8 : w8.frozen? ⟨w.heap.size + 1 + 1, 4, none⟩ = false := B8.out.frozen 4)
        | (go_simp
           go_at_call 49
           refine (HK5.out _ rfl).mono ?_
           rintro e w6 ⟨A2, c2, F, rfl, hc2, hl2, hnd2, hF2, hb1⟩
           have H6 := Lib.hid (Below.trans H5.out ((((Below.refl _ w5).drew).trans hb1).mono (Nat.le_of_lt hz5)))
           have HO := Lib.hid (own_below HR.out.own H6.out)
           have HN := Lib.hid (cells_new w6 (Ent.cells (v.kids[j].srt, A2, c2)).toArray 28)
           have HL2 := Lib.hid hl2
           have HND := Lib.hid hnd2
           have HF2 : Hid (∀ x ∈ F, wr.heap.size ≤ x) := Lib.hid (fun x hx => by have := hF2 x hx; have : w5.drew.heap.size = w5.heap.size := rfl; omega)
           have hz6 : w.heap.size + 3 ≤ w6.heap.size := by have := HS.out; have := H6.out.size; omega
           have B6 : Hid (Blk w6 (w.heap.size + 1 + 1) 28 #[.int .i64 v.k, .int .i64 v.n, .int .i64 v.e, .string v.s, .slice oA es.length oc]) := Lib.hid (HB2.out.below H6.out (by have := HS.out; omega))
           have q4 := (B6.out.five).2.2.2.2
           have hq6 : w.heap.size + 1 + 1 < w6.heap.size := by omega
           clear hl2 hnd2 hF2 hb1
           unfold V.agg))
      all_goals
        go_wp2_with fail
        go_roundw
        case rel => exact SrRel.next hlt HE.out HR.out HB0.out HB1.out HB2.out HW.out HS.out hc2 HL2.out HND.out (fun x hx => HF2.out x hx) H6.out ((Below.refl _ _).alloc (Nat.le_refl _) _) hown' hgr hat'
        case measure => simp [intOf]; omega
    · obtain rfl : j = v.kids.length := by omega
      have HE2 : Hid (es.map (·.1) = v.kids.map V.srt) := Lib.hid (by have := HE.out; rwa [List.take_length] at this)
      obtain ⟨q0, q1, q2, q3, q4⟩ := Blk.five (g := w.heap.size + 1 + 1) HB2.out
      have a0 := (HB0.out.five).1
      obtain ⟨p0, p1, p2, p3, p4⟩ := HB1.out.five
      have f0 := HB1.out.frozen 0
      have f1 := HB1.out.frozen 1
      have f2 := HB1.out.frozen 2
      have f3 := HB1.out.frozen 3
      have f4 := HB1.out.frozen 4
      by_cases h8 : v.k = 8
      · have he8 : (v.k == 8) = true := by simpa using h8
        have H8 := Lib.hid h8
        have HMF := Lib.hid (((V.fitM_eq v).1 HF.out).1)
        have hlen : es.length = v.kids.length := by have := congrArg List.length HE2.out; simpa using this
        have hes9 : es.length ≤ 900 := by have := (HMF.out h8).1; omega
        have hev : es.length % 2 = 0 := by have := (HMF.out h8).2.1; omega
        have HEV := Lib.hid hev
        have HLN := Lib.hid hlen
        have hcell : ∀ q, q < es.length * 5 → ∃ g0, oA = some ⟨g0, 0, none⟩ ∧ g0 < wr.heap.size ∧ wr.cell? ⟨g0, q, none⟩ = (flat es)[q]? := fun q hq => by
          have ho := HR.out.own
          rcases ho.2 with ⟨e, h0⟩ | ⟨g0, cap0, cur, e, h1, h2, h3⟩
          · omega
          · injection e with e1 e2 e3
            subst e1
            exact ⟨g0, rfl, (ho.lt g0 rfl).2, ho.cellAt q (by omega)⟩
        have HP := Lib.hid (pairsOf v oA oc es wr hes9 hcell)
        clear h8 hcell hev hlen
        go_upto_region 9 with fail
        clear he8
        go_wp2_with fail
        refine HP.out.mono ?_
        rintro e w1 ⟨A1, d1, rfl, hp1, hp2⟩
        have HP1 := Lib.hid hp1
        have HP2 := Lib.hid hp2
        clear hp1 hp2
        have hz1 : wr.heap.size + 1 ≤ w1.heap.size + 1 := by have := HP2.out.size; omega
        have HFK := Lib.hid (fit_keys HMF.out H8.out HE2.out)
        have HSP := Lib.hid (sortPairs HP1.out (pairsL_len es).symm (by omega) HFK.out.1)
        go_upto_region 10 with fail
        go_wp2_with fail
        refine HSP.out.mono ?_
        rintro e w2 ⟨rfl, Z, z1, z2, z3, z4⟩
        have HZ1 := Lib.hid z1
        have HZ2 := Lib.hid z2
        have HZ3 := Lib.hid z3
        have HZ4 := Lib.hid z4
        clear z1 z2 z3 z4
        have HZN : Hid (es.length / 2 = Z.length) := Lib.hid (by rw [HZ1.out.length_eq, pairsL_len])
        have HMP := Lib.hid (mapPairs (w := w2) (c := d1) HZN.out (by omega) HZ3.out)
        have hS := HS.out
        have hzw : wr.heap.size ≤ w1.heap.size := HP2.out.size
        have hz12 : w1.heap.size ≤ w2.heap.size := HZ4.out.size
        go_upto_region 11 with fail
        clear q0 q1 q2 q3 q4 p0 p1 p2 p3 p4 f0 f1 f2 f3 f4 a0
        go_wp2_with fail
        refine HMP.out.mono ?_
        rintro e w3 ⟨A2, cA, rfl, ho3, hb3⟩
        have HO3 := Lib.hid ho3
        have H3 : Hid (Below wr.heap.size wr w3) := Lib.hid ((HP2.out.trans (HZ4.out.mono (by omega))).trans (hb3.mono (by omega)))
        have HB3 := Lib.hid (HB1.out.below H3.out (by omega))
        clear ho3 hb3
        obtain ⟨p0, p1, p2, p3, p4⟩ := HB3.out.five
        have f0 := HB3.out.frozen 0
        have f1 := HB3.out.frozen 1
        have f2 := HB3.out.frozen 2
        have f3 := HB3.out.frozen 3
        have f4 := HB3.out.frozen 4
        go_wp2_with fail
        have R : Blk (((((w3.setCell ⟨w.heap.size + 1, 0, none⟩ (.int .i64 8)).setCell ⟨w.heap.size + 1, 1, none⟩ (.int .i64 0)).setCell ⟨w.heap.size + 1, 2, none⟩ (.int .i64 0)).setCell ⟨w.heap.size + 1, 3, none⟩ (.string ⟨#[]⟩)).setCell ⟨w.heap.size + 1, 4, none⟩ (.slice A2 (2 * (es.length / 2)) cA)) (w.heap.size + 1) 28 #[.int .i64 8, .int .i64 0, .int .i64 0, .string ⟨#[]⟩, .slice A2 (2 * (es.length / 2)) cA] := by
          have h := ((((HB3.out.set 0 (.int .i64 8)).set 1 (.int .i64 0)).set 2 (.int .i64 0)).set 3 (.string ⟨#[]⟩)).set 4 (.slice A2 (2 * (es.length / 2)) cA)
          simpa using h
        have RG : Gr (w.heap.size + 1) w3 (((((w3.setCell ⟨w.heap.size + 1, 0, none⟩ (.int .i64 8)).setCell ⟨w.heap.size + 1, 1, none⟩ (.int .i64 0)).setCell ⟨w.heap.size + 1, 2, none⟩ (.int .i64 0)).setCell ⟨w.heap.size + 1, 3, none⟩ (.string ⟨#[]⟩)).setCell ⟨w.heap.size + 1, 4, none⟩ (.slice A2 (2 * (es.length / 2)) cA)) := by
          repeat (first | exact Gr.refl _ _ | (refine Gr.trans ?_ (Gr.set _ _ _ _)))
        generalize (((((w3.setCell ⟨w.heap.size + 1, 0, none⟩ (.int .i64 8)).setCell ⟨w.heap.size + 1, 1, none⟩ (.int .i64 0)).setCell ⟨w.heap.size + 1, 2, none⟩ (.int .i64 0)).setCell ⟨w.heap.size + 1, 3, none⟩ (.string ⟨#[]⟩)).setCell ⟨w.heap.size + 1, 4, none⟩ (.slice A2 (2 * (es.length / 2)) cA)) = w9 at R RG ⊢
        clear p0 p1 p2 p3 p4
        obtain ⟨c0, c1, c2, c3, c4⟩ := R.five
        have hsz3 := H3.out.size
        refine bodyPost_ret (v := .agg #[.int .i64 8, .int .i64 0, .int .i64 0, .string ⟨#[]⟩, .slice A2 (2 * (es.length / 2)) cA]) (by simp [results, Tryd.results49, go_sem, c0, c1, c2, c3, c4]) rfl (sr_map (w2 := w2) HMF.out H8.out HE2.out HR.out hS HZ1.out HZ2.out HZN.out (fun c hc => ?_) (by have := RG.size; omega) (by omega) (World.ownsRow.kept HO3.out RG (.inr (fun e => by have := (HO3.out.lt _ e).1; omega))) ((HW.out.trans (H3.out.mono HW.out.size)).grown RG (by omega) (fun k hk => by injection hk with hk; omega)))
        have h1 := HR.out.low c hc
        have h2 := HR.out.lt c hc
        exact (RG.block c (by omega) (fun e => by injection e with e; omega)).trans (H3.out.block c h2)
      · have he8 : (v.k == 8) = false := by simpa using h8
        have H8 := Lib.hid h8
        clear h8
        go_wp2_with fail
        have R : Blk (((((wr.setCell ⟨w.heap.size + 1, 0, none⟩ (.int .i64 v.k)).setCell ⟨w.heap.size + 1, 1, none⟩ (.int .i64 v.n)).setCell ⟨w.heap.size + 1, 2, none⟩ (.int .i64 v.e)).setCell ⟨w.heap.size + 1, 3, none⟩ (.string v.s)).setCell ⟨w.heap.size + 1, 4, none⟩ (.slice oA es.length oc)) (w.heap.size + 1) 28 #[.int .i64 v.k, .int .i64 v.n, .int .i64 v.e, .string v.s, .slice oA es.length oc] := by
          have h := ((((HB1.out.set 0 (.int .i64 v.k)).set 1 (.int .i64 v.n)).set 2 (.int .i64 v.e)).set 3 (.string v.s)).set 4 (.slice oA es.length oc)
          simpa using h
        have RG : Gr (w.heap.size + 1) wr (((((wr.setCell ⟨w.heap.size + 1, 0, none⟩ (.int .i64 v.k)).setCell ⟨w.heap.size + 1, 1, none⟩ (.int .i64 v.n)).setCell ⟨w.heap.size + 1, 2, none⟩ (.int .i64 v.e)).setCell ⟨w.heap.size + 1, 3, none⟩ (.string v.s)).setCell ⟨w.heap.size + 1, 4, none⟩ (.slice oA es.length oc)) := by
          repeat (first | exact Gr.refl _ _ | (refine Gr.trans ?_ (Gr.set _ _ _ _)))
        generalize (((((wr.setCell ⟨w.heap.size + 1, 0, none⟩ (.int .i64 v.k)).setCell ⟨w.heap.size + 1, 1, none⟩ (.int .i64 v.n)).setCell ⟨w.heap.size + 1, 2, none⟩ (.int .i64 v.e)).setCell ⟨w.heap.size + 1, 3, none⟩ (.string v.s)).setCell ⟨w.heap.size + 1, 4, none⟩ (.slice oA es.length oc)) = w9 at R RG ⊢
        clear q0 q1 q2 q3 q4 p0 p1 p2 p3 p4
        obtain ⟨c0, c1, c2, c3, c4⟩ := R.five
        refine bodyPost_ret (v := .agg #[.int .i64 v.k, .int .i64 v.n, .int .i64 v.e, .string v.s, .slice oA es.length oc]) (by simp [results, Tryd.results49, go_sem, c0, c1, c2, c3, c4]) rfl (sr_end (by rw [V.srt_eq, if_neg H8.out, HE2.out]) (HR.out.gr RG (by omega)) (by omega) (HW.out.grown RG (by have := HS.out; omega) (fun k hk => by injection hk with hk; omega)))
theorem implSorted0 : ∀ v, SrtSaid v := V.all srt_step
end Go.Proofs.YtcjamnfboifjeaaDoor

/-
  The reference's order of two numbers and of two texts.
-/
namespace Go.Proofs.YtcjamnfboifjeaaDoor
open Go.RowKit
set_option linter.unusedVariables false
set_option maxRecDepth 100000
set_option linter.unusedSimpArgs false

theorem specLess (a b : Int) (w : World) : Calls Tryd.prog 60 #[.int .i64 a, .int .i64 b] w fun e w' => e = .returned (.int .i64 (lessI a b)) ∧ w' = w := by
  by_cases h1 : a < b
  · have h := lessI_lt h1
    have H := Lib.hid h
    clear h
    go_enter Tryd.func60, Tryd.ntmps60
    go_wp2_with fail
    go_ret
    exact ⟨ret_num (by rw [H.out]), rfl⟩
  · by_cases h2 : b < a
    · have h := lessI_gt h2
      have H := Lib.hid h
      clear h
      go_enter Tryd.func60, Tryd.ntmps60
      go_wp2_with fail
      go_ret
      exact ⟨ret_num (by rw [H.out]), rfl⟩
    · obtain rfl : a = b := by omega
      have h := lessI_eq a
      have H := Lib.hid h
      clear h
      go_enter Tryd.func60, Tryd.ntmps60
      go_wp2_with fail
      go_ret
      exact ⟨ret_num (by rw [H.out]), rfl⟩

theorem specTexts (a b : ByteArray) (w : World) : Calls Tryd.prog 61 #[.string a, .string b] w fun e w' => e = .returned (.int .i64 (lessT a b)) ∧ w' = w := by
  by_cases h1 : Op.bytesLess a.toList b.toList = true
  · have h : lessT a b = -1 := by unfold lessT; rw [if_pos h1]
    have H := Lib.hid h
    clear h
    go_enter Tryd.func61, Tryd.ntmps61
    go_wp2_with fail
    go_ret
    exact ⟨ret_num (by rw [H.out]), rfl⟩
  · have h1' : Op.bytesLess a.toList b.toList = false := by simpa using h1
    by_cases h2 : (a.toList == b.toList) = true
    · have h : lessT a b = 0 := by unfold lessT; rw [if_neg h1, if_pos h2]
      have H := Lib.hid h
      clear h h1
      go_enter Tryd.func61, Tryd.ntmps61
      go_wp2_with fail
      go_ret
      exact ⟨ret_num (by rw [H.out]), rfl⟩
    · have h : lessT a b = 1 := by unfold lessT; rw [if_neg h1, if_neg h2]
      have h2' : (a.toList == b.toList) = false := by simpa using h2
      have H := Lib.hid h
      clear h h1 h2
      go_enter Tryd.func61, Tryd.ntmps61
      go_wp2_with fail
      go_ret
      exact ⟨ret_num (by rw [H.out]), rfl⟩
end Go.Proofs.YtcjamnfboifjeaaDoor

/-
  The reference's Compare.
-/
namespace Go.Proofs.YtcjamnfboifjeaaDoor
open Go.RowKit
set_option linter.unusedVariables false
set_option maxRecDepth 100000
set_option linter.unusedSimpArgs false

def SpecCmpSaid (a : V) : Prop := ∀ (b : V) (A B : Option Addr) (ca cb : Nat) (w : World), a.nodes ≤ 1048577 → b.nodes ≤ 1048577 → Vs.at_ w 0 w.heap.size a.kids A → Vs.at_ w 0 w.heap.size b.kids B →
    Calls Tryd.prog 18 #[a.agg A ca, b.agg B cb] w fun e w' => e = .returned (.int .i64 (V.cmp a b)) ∧ Below w.heap.size w w'

/-- The two values lie in their blocks. -/
def TwoIn (w : World) (a b : V) (A B : Option Addr) (ca cb : Nat) (wr : World) : Prop :=
  Blk wr w.heap.size 28 #[.int .i64 a.k, .int .i64 a.n, .int .i64 a.e, .string a.s, .slice A a.kids.length ca] ∧
  Blk wr (w.heap.size + 1) 28 #[.int .i64 b.k, .int .i64 b.n, .int .i64 b.e, .string b.s, .slice B b.kids.length cb] ∧ Below w.heap.size w wr

set_option maxHeartbeats 4000000 in
theorem specCmp_step (a : V) (hk : ∀ i (h : i < a.kids.length), SpecCmpSaid a.kids[i]) : SpecCmpSaid a := by
  intro b A B ca cb w hn hm hat hbt
  rw [V.nodes_eq] at hn hm
  have hl : a.kids.length ≤ 1048576 := by have := Vs.len_nodes a.kids; omega
  have hl2 : b.kids.length ≤ 1048576 := by have := Vs.len_nodes b.kids; omega
  have HK := fun (i : Nat) (h : i < a.kids.length) (h2 : i < b.kids.length) (A' B' : Option Addr) (c c' : Nat) (w' : World) (h1 : Vs.at_ w' 0 w'.heap.size (a.kids[i]).kids A') (h2' : Vs.at_ w' 0 w'.heap.size (b.kids[i]).kids B') => hk i h b.kids[i] A' B' c c' w' (by have := Vs.nodes_get i h; omega) (by have := Vs.nodes_get i h2; omega) h1 h2'
  have HC := Lib.hid HK
  clear HK hk
  have HA := Lib.hid hat
  have HB := Lib.hid hbt
  have HF := Lib.hid (orN_first (ordAt a b) 5)
  have HZ := Lib.hid (orN_zero (ordAt a b) 5)
  clear hat hbt
  unfold V.agg
  go_enter Tryd.func18, Tryd.ntmps18
  go_wp2_with fail
  obtain ⟨w2, hw2, Ba, Bb, b1, z2⟩ := two_new w 28 28 #[.int .i64 a.k, .int .i64 a.n, .int .i64 a.e, .string a.s, .slice A a.kids.length ca] #[.int .i64 b.k, .int .i64 b.n, .int .i64 b.e, .string b.s, .slice B b.kids.length cb]
  rw [← hw2]
  clear hw2
  obtain ⟨p0, p1, p2, p3, p4⟩ := Ba.five
  obtain ⟨q0, q1, q2, q3, q4⟩ := Bb.five
  refine wp_region_still_tail 27 (by kernel_rfl) (by kernel_rfl) ?_
  simp only [List.take_succ_cons, List.take_zero, List.drop_succ_cons, List.drop_zero]
  still_step; still_step; still_step; still_step
  still_call (specLess _ _ _)
  still_step; still_step; still_step; still_step
  still_call (specLess _ _ _)
  still_step; still_step; still_step; still_step
  still_call (specLess _ _ _)
  still_step; still_step; still_step; still_step
  still_call (specTexts _ _ _)
  still_step; still_step; still_step; still_step; still_step; still_step
  still_call (specLess _ _ _)
  refine wpStill_nil ?_
  change wpList _ _ _ _ _ w2.drew
  clear p0 p1 p2 p3 p4 q0 q1 q2 q3 q4
  have BO : Blk (w2.alloc (.cells (ordCells a b) 3)).drew w2.heap.size 3 (ordCells a b) := (Blk.new w2 _ _).drew
  have TW : TwoIn w a b A B ca cb (w2.alloc (.cells (ordCells a b) 3)).drew := ⟨(Ba.alloc _).drew, (Bb.alloc _).drew, (b1.alloc b1.size _).drew⟩
  clear Ba Bb b1
  go_wp2_with fail
  go_loopw [6] (fun i wr => ∃ j : Nat, j ≤ 5 ∧ i = .int .i64 j ∧ (∀ k, k < j → ordAt a b k = 0) ∧ Blk wr (w.heap.size + 2) 3 (ordCells a b) ∧ TwoIn w a b A B ca cb wr) (fun i _ => 5 - (intOf i).toNat)
  case atStart => exact ⟨0, Nat.zero_le _, rfl, fun k hk => by omega, by rw [← z2]; exact BO, TW⟩
  case round =>
    obtain ⟨j, hj, rfl, hz, BO2, TW2⟩ := hrel
    clear BO TW
    have HH := Lib.hid hz
    clear hz
    by_cases hlt : j < 5
    · have c0 := ordCells_at BO2 j hlt
      by_cases h0 : ordAt a b j = 0
      · have H0 := Lib.hid h0
        rw [h0] at c0
        clear h0
        go_wp2_with fail
        go_roundw
        case rel => exact ⟨j + 1, by omega, by go_num, fun k hk => by
          by_cases hk2 : k = j
          · subst hk2; exact H0.out
          · exact HH.out k (by omega), BO2, TW2⟩
        case measure => simp [intOf]; omega
      · go_wp2_with fail
        go_ret
        have h1 := HF.out j HH.out hlt h0
        exact ⟨ret_num (by rw [V.cmp_ord (a := a) (b := b) (by unfold V.ord; rw [h1]; exact h0)]; unfold V.ord; rw [h1]), TW2.2.2⟩
    · obtain rfl : j = 5 := by omega
      rw [show ((5 : Nat) : Int) = 5 from rfl]
      have hz0 : V.ord a b = 0 := HZ.out HH.out
      have hlen := V.ord_len hz0
      have HL := Lib.hid hlen
      have HQ := Lib.hid (V.cmp_zero hz0)
      have HS := Lib.hid (Vs.cmp_first a.kids b.kids)
      have HN := Lib.hid (Vs.cmp_none a.kids b.kids)
      clear HH HF HZ hz0 hlen BO2
      go_wp2_with fail
      go_loopw [7, 8] (fun i _ wr => ∃ j : Nat, j ≤ a.kids.length ∧ i = .int .i64 j ∧ (∀ k (h1 : k < a.kids.length) (h2 : k < b.kids.length), k < j → V.cmp a.kids[k] b.kids[k] = 0) ∧ TwoIn w a b A B ca cb wr) (fun i _ _ => a.kids.length - (intOf i).toNat)
      case atStart => exact ⟨0, Nat.zero_le _, rfl, fun k _ _ hk => by omega, TW2⟩
      case round =>
        obtain ⟨j, hj, rfl, hz, Ba, Bb, hb⟩ := hrel
        have HH := Lib.hid hz
        clear hz TW2
        by_cases hlt : j < a.kids.length
        · have hlt2 : j < b.kids.length := by have := HL.out; omega
          have a4 : wr.cell? ⟨w.heap.size, 4, none⟩ = some (.slice A a.kids.length ca) := Ba.cell 4
          have b4 : wr.cell? ⟨w.heap.size + 1, 4, none⟩ = some (.slice B b.kids.length cb) := Bb.cell 4
          obtain ⟨g, off, A', cap', rfl, g1, g2, g3, ⟨c0, c1, c2, c3, c4⟩, g5⟩ := Vs.at_get j hlt (Vs.at_below HA.out hb (Nat.le_refl _))
          obtain ⟨g', off2, A2', cap2', rfl, g12, g22, g32, ⟨d0, d1, d2, d3, d4⟩, g52⟩ := Vs.at_get j hlt2 (Vs.at_below HB.out hb (Nat.le_refl _))
          have HJ := Lib.hid (HS.out j hlt hlt2 HH.out)
          go_wp2_with fail
          go_still_tail 10, (by kernel_rfl)
          change wpList _ _ _ _ _ wr.drew
          go_wp2_with fail
          refine (HC.out j hlt hlt2 A' A2' cap' cap2' wr.drew (Vs.at_more (Nat.le_refl _) hb.size _ _ (Vs.at_drew g5)) (Vs.at_more (Nat.le_refl _) hb.size _ _ (Vs.at_drew g52))).mono ?_
          rintro e w1 ⟨rfl, hb1⟩
          have hbw : Below w.heap.size w w1 := hb.drew.trans (hb1.mono hb.size)
          have hz1 : w.heap.size + 1 < wr.heap.size := Bb.lt
          have TW3 : TwoIn w a b (some ⟨g, off, none⟩) (some ⟨g', off2, none⟩) ca cb w1 := ⟨(Ba.drew).below hb1 (by show w.heap.size < wr.heap.size; omega), (Bb.drew).below hb1 hz1, hbw⟩
          clear c0 c1 c2 c3 c4 d0 d1 d2 d3 d4 a4 b4
          by_cases h0 : V.cmp a.kids[j] b.kids[j] = 0
          · have H0 := Lib.hid h0
            rw [h0]
            clear h0
            go_wp2_with fail
            go_roundw
            case rel => exact ⟨j + 1, by omega, by go_num, fun k h1 h2 hk => by
              by_cases hk2 : k = j
              · subst hk2; exact H0.out
              · exact HH.out k h1 h2 (by omega), TW3⟩
            case measure => simp [intOf]; omega
          · go_wp2_with fail
            go_ret
            exact ⟨ret_num (by rw [HQ.out, HJ.out h0]), hbw⟩
        · obtain rfl : j = a.kids.length := by omega
          have a4 : wr.cell? ⟨w.heap.size, 4, none⟩ = some (.slice A a.kids.length ca) := Ba.cell 4
          go_wp2_with fail
          go_ret
          exact ⟨ret_num (by rw [HQ.out]; exact (HN.out fun k h1 h2 => HH.out k h1 h2 h1).symm), hb⟩
theorem specCmp (a : V) : SpecCmpSaid a := V.all specCmp_step a
end Go.Proofs.YtcjamnfboifjeaaDoor
