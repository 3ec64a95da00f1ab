/-
  Count: how many values of a kind there are in a value.
-/
import Derived.Test.YtlfiaccpihjldaaCaps
namespace Go.Proofs.Ytlfiaccpihjldaa
open Go.RowKit
set_option linter.unusedVariables false
set_option linter.unusedSimpArgs false

/-- How many values of a list are of a kind. -/
def ofKind (kind : Int) (l : List V) : Nat := l.countP (fun x => decide (x.k = kind))
theorem ofKind_append (kind : Int) (a b : List V) : ofKind kind (a ++ b) = ofKind kind a + ofKind kind b := List.countP_append
theorem ofKind_len (kind : Int) (l : List V) : ofKind kind l ≤ l.length := List.countP_le_length
theorem ofKind_yes {kind : Int} {v : V} (l : List V) (h : v.k = kind) : ofKind kind (v :: l) = ofKind kind l + 1 := by unfold ofKind; rw [List.countP_cons_of_pos (by simpa using h)]
theorem ofKind_no {kind : Int} {v : V} (l : List V) (h : ¬ v.k = kind) : ofKind kind (v :: l) = ofKind kind l := by unfold ofKind; rw [List.countP_cons_of_neg (by simpa using h)]
theorem ofKind_step (kind : Int) (l : List V) (i : Nat) (h : i < l.length) : ofKind kind (Vs.pre (l.take (i + 1))) = ofKind kind (Vs.pre (l.take i)) + ofKind kind (l[i]).pre := by rw [Vs.pre_step l i h, ofKind_append]
theorem Vs.nodes_take' (l : List V) : ∀ i, Vs.nodes (l.take i) ≤ Vs.nodes l := by
  induction l with
  | nil => intro i; simp
  | cons a l ih =>
    intro i
    cases i with
    | zero => simp [Vs.nodes]
    | succ i => simp only [List.take_succ_cons, Vs.nodes]; have := ih i; omega
theorem ofKind_take (kind : Int) (l : List V) (i : Nat) : ofKind kind (Vs.pre (l.take i)) ≤ Vs.nodes l := by
  have h1 := ofKind_len kind (Vs.pre (l.take i))
  rw [Vs.pre_len] at h1
  exact Nat.le_trans h1 (Vs.nodes_take' l i)
theorem ofKind_one (kind : Int) (v : V) : ofKind kind v.pre ≤ v.nodes := by
  have h1 := ofKind_len kind v.pre
  rwa [V.pre_len] at h1

def SpecCountSaid (v : V) : Prop := ∀ (kind : Int) (A : Option Addr) (cap : Nat) (w : World), v.nodes ≤ 1048577 → Vs.at_ w 0 w.heap.size v.kids A →
    Calls Try.prog 10 #[v.agg A cap, .int .i64 kind] w fun e w' => e = .returned (.int .i64 (ofKind kind v.pre)) ∧ Below w.heap.size w w'

set_option maxHeartbeats 2000000 in
theorem specCount_step (v : V) (hk : ∀ i (h : i < v.kids.length), SpecCountSaid v.kids[i]) : SpecCountSaid v := by
  intro kind A cap w hn hat
  rw [V.nodes_eq] at hn
  have hl : v.kids.length ≤ 1048576 := by have := Vs.len_nodes v.kids; omega
  have HK := fun (i : Nat) (h : i < v.kids.length) (A' : Option Addr) (c : Nat) (w' : World) (h1 : Vs.at_ w' 0 w'.heap.size (v.kids[i]).kids A') => hk i h kind A' c w' (by have := Vs.nodes_get i h; omega) h1
  have HC := Lib.hid HK
  clear HK hk
  have HA := Lib.hid hat
  clear hat
  obtain ⟨b0, hb0, hd0, hle0⟩ : ∃ b0 : Nat, ofKind kind v.pre = b0 + ofKind kind (Vs.pre v.kids) ∧ ((v.k == kind) = true ∧ b0 = 1 ∨ (v.k == kind) = false ∧ b0 = 0) ∧ b0 ≤ 1 := by
    by_cases h : v.k = kind
    · exact ⟨1, by rw [V.pre_eq, ofKind_yes _ h]; omega, .inl ⟨by simpa using h, rfl⟩, Nat.le_refl _⟩
    · exact ⟨0, by rw [V.pre_eq, ofKind_no _ h]; omega, .inr ⟨by simpa using h, rfl⟩, by omega⟩
  have HB := Lib.hid hb0
  clear hb0
  unfold V.agg
  rcases hd0 with ⟨hd0, rfl⟩ | ⟨hd0, rfl⟩
  · go_enter Try.func10, Try.ntmps10
    go_wp2_with fail
    go_loopw [5, 6] (fun d i wr => ∃ j : Nat, j ≤ v.kids.length ∧ i = .int .i64 j ∧ d = .int .i64 ((ofKind kind (Vs.pre (v.kids.take j)) : Int) + 1) ∧ Blk wr w.heap.size 29 #[.int .i64 v.k, .int .i64 v.n, .int .i64 v.e, .string v.s, .slice A v.kids.length cap] ∧ Below w.heap.size w wr) (fun _ i _ => v.kids.length - (intOf i).toNat)
    case atStart => exact ⟨0, Nat.zero_le _, rfl, by simp [Vs.pre, ofKind, hd0], Blk.new _ _ _, (Below.refl _ _).alloc (Nat.le_refl _) _⟩
    case round =>
      obtain ⟨j, hj, rfl, rfl, B, hb⟩ := hrel
      have b4 : wr.cell? ⟨w.heap.size, 4, none⟩ = some (.slice A v.kids.length cap) := B.cell 4
      by_cases hlt : j < v.kids.length
      · have hst := ofKind_step kind v.kids j hlt
        have hd4 := ofKind_take kind v.kids j
        have hd5 := ofKind_one kind v.kids[j]
        have hd6 := Vs.nodes_get j hlt
        have HST := Lib.hid hst
        clear hst
        obtain ⟨b, off, A', cap', rfl, g1, g2, g3, ⟨c0, c1, c2, c3, c4⟩, g5⟩ := Vs.at_get j hlt (Vs.at_below HA.out hb (Nat.le_refl _))
        go_wp2_with fail
        refine (HC.out j hlt A' cap' _ (Vs.at_more (Nat.le_refl _) hb.size _ _ g5)).mono ?_
        rintro e w1 ⟨rfl, hb1⟩
        have hbw : Below w.heap.size w w1 := hb.trans (hb1.mono hb.size)
        have B' := B.below hb1 B.lt
        clear c0 c1 c2 c3 c4 b4
        go_wp2_with fail
        go_roundw
        case rel => exact ⟨j + 1, by omega, by go_num, by rw [HST.out]; go_num, B', hbw⟩
        case measure => simp [intOf]; omega
      · obtain rfl : j = v.kids.length := by omega
        have hd4 := ofKind_take kind v.kids v.kids.length
        rw [List.take_length] at hd4 ⊢
        go_wp2_with fail
        go_ret
        exact ⟨ret_num (by rw [HB.out]; omega), hb⟩
  · go_enter Try.func10, Try.ntmps10
    go_wp2_with fail
    go_loopw [5, 6] (fun d i wr => ∃ j : Nat, j ≤ v.kids.length ∧ i = .int .i64 j ∧ d = .int .i64 ((ofKind kind (Vs.pre (v.kids.take j)) : Int)) ∧ Blk wr w.heap.size 29 #[.int .i64 v.k, .int .i64 v.n, .int .i64 v.e, .string v.s, .slice A v.kids.length cap] ∧ Below w.heap.size w wr) (fun _ i _ => v.kids.length - (intOf i).toNat)
    case atStart => exact ⟨0, Nat.zero_le _, rfl, by simp [Vs.pre, ofKind, hd0], Blk.new _ _ _, (Below.refl _ _).alloc (Nat.le_refl _) _⟩
    case round =>
      obtain ⟨j, hj, rfl, rfl, B, hb⟩ := hrel
      have b4 : wr.cell? ⟨w.heap.size, 4, none⟩ = some (.slice A v.kids.length cap) := B.cell 4
      by_cases hlt : j < v.kids.length
      · have hst := ofKind_step kind v.kids j hlt
        have hd4 := ofKind_take kind v.kids j
        have hd5 := ofKind_one kind v.kids[j]
        have hd6 := Vs.nodes_get j hlt
        have HST := Lib.hid hst
        clear hst
        obtain ⟨b, off, A', cap', rfl, g1, g2, g3, ⟨c0, c1, c2, c3, c4⟩, g5⟩ := Vs.at_get j hlt (Vs.at_below HA.out hb (Nat.le_refl _))
        go_wp2_with fail
        refine (HC.out j hlt A' cap' _ (Vs.at_more (Nat.le_refl _) hb.size _ _ g5)).mono ?_
        rintro e w1 ⟨rfl, hb1⟩
        have hbw : Below w.heap.size w w1 := hb.trans (hb1.mono hb.size)
        have B' := B.below hb1 B.lt
        clear c0 c1 c2 c3 c4 b4
        go_wp2_with fail
        go_roundw
        case rel => exact ⟨j + 1, by omega, by go_num, by rw [HST.out]; go_num, B', hbw⟩
        case measure => simp [intOf]; omega
      · obtain rfl : j = v.kids.length := by omega
        have hd4 := ofKind_take kind v.kids v.kids.length
        rw [List.take_length] at hd4 ⊢
        go_wp2_with fail
        go_ret
        exact ⟨ret_num (by rw [HB.out]; omega), hb⟩
theorem specCount (v : V) : SpecCountSaid v := V.all specCount_step v

/-- The kind and the count that the walk's function holds. -/
def CountInv (kind : Int) (q g : Nat) (xs : List V) (w : World) : Prop := Blk w q 3 #[.int .i64 kind] ∧ Blk w g 3 #[.int .i64 (i64of (ofKind kind xs))] ∧ q ≠ g
theorem Blk.set_other {w : World} {q g : Nat} {t : TypeId} {cs : Array Value} (h : Blk w q t cs) (hq : q ≠ g) (u : Value) : Blk (w.setCell ⟨g, 0, none⟩ u) q t cs :=
  (Below.heap_setCell w ⟨g, 0, none⟩ u q (by simpa using hq)).trans h

set_option maxHeartbeats 1000000 in
theorem count_yields (kind : Int) (q g : Nat) : Yields 32 #[.pointer (some ⟨q, 0, none⟩), .pointer (some ⟨g, 0, none⟩)] (CountInv kind q g) (fun _ k => k = g) where
  enters := enters_of Try.func32 (by kernel_rfl) rfl
  alloc := fun xs w o h => ⟨⟨h.1.alloc o, h.2.1.alloc o, h.2.2⟩, fun k hk => ⟨hk, by subst hk; exact h.2.1.lt⟩⟩
  step := by
    intro xs x A c w hi hB hat hhi hD hn
    obtain ⟨hQ, hB, hne⟩ := hB
    have hlt := hB.lt
    have hlq := hQ.lt
    have HB := Lib.hid hB
    have HQ := Lib.hid hQ
    have c0 : (w.alloc (.cells #[.int .i64 x.k, .int .i64 x.n, .int .i64 x.e, .string x.s, .slice A x.kids.length c] 29)).cell? ⟨g, 0, none⟩ = some (.int .i64 (i64of (ofKind kind xs))) := (hB.alloc _).cell 0
    have q0 : (w.alloc (.cells #[.int .i64 x.k, .int .i64 x.n, .int .i64 x.e, .string x.s, .slice A x.kids.length c] 29)).cell? ⟨q, 0, none⟩ = some (.int .i64 kind) := (hQ.alloc _).cell 0
    have f0 : (w.alloc (.cells #[.int .i64 x.k, .int .i64 x.n, .int .i64 x.e, .string x.s, .slice A x.kids.length c] 29)).frozen? ⟨g, 0, none⟩ = false := (hB.alloc _).frozen 0
    clear hB hQ hat hD
    unfold V.agg
    show Calls Try.prog 32 #[_, _, _] w _
    by_cases hk : x.k = kind
    · have hs : ofKind kind (xs ++ [x]) = ofKind kind xs + 1 := by rw [ofKind_append, ofKind_yes _ hk]; rfl
      replace hk : (x.k == kind) = true := by simpa using hk
      have HS := Lib.hid hs
      clear hs
      go_enter Try.func32, Try.ntmps32
      go_wp2_with fail
      go_end0
      refine ⟨rfl, ⟨(HQ.out.set_other hne _).alloc _, ?_, hne⟩, ?_⟩
      · have h := (HB.out.set1 (.int .i64 (i64of (ofKind kind (xs ++ [x]))))).alloc (.cells #[.int .i64 x.k, .int .i64 x.n, .int .i64 x.e, .string x.s, .slice A x.kids.length c] 29)
        rw [i64of_succ]
        rw [HS.out] at h ⊢
        exact h
      · exact keep_alloc1 (keep_set1 (Keep.refl w) _) _
    · have hs : ofKind kind (xs ++ [x]) = ofKind kind xs := by rw [ofKind_append, ofKind_no _ hk]; rfl
      replace hk : (x.k == kind) = false := by simpa using hk
      have HS := Lib.hid hs
      clear hs
      go_enter Try.func32, Try.ntmps32
      go_wp2_with fail
      go_end0
      refine ⟨rfl, ⟨HQ.out.alloc _, ?_, hne⟩, keep_alloc1 (Keep.refl w) _⟩
      rw [HS.out]
      exact HB.out.alloc _

set_option maxHeartbeats 1000000 in
theorem implCount (v : V) (kind : Int) (A : Option Addr) (cap : Nat) (w : World) (hn : v.nodes ≤ 1048577) (hat : Vs.at_ w 0 w.heap.size v.kids A) :
    Calls Try.prog 12 #[v.agg A cap, .int .i64 kind] w fun e w' => e = .returned (.int .i64 (ofKind kind v.pre)) ∧ Below w.heap.size w w' := by
  have HA := Lib.hid hat
  have HL := Lib.hid (ofKind_one kind v)
  clear hat
  unfold V.agg
  go_enter Try.func12, Try.ntmps12
  go_wp2_with fail
  have hQ := Blk.new (w.alloc (.cells #[.int .i64 v.k, .int .i64 v.n, .int .i64 v.e, .string v.s, .slice A v.kids.length cap] 29)) 3 #[.int .i64 kind]
  have hB := Blk.new ((w.alloc (.cells #[.int .i64 v.k, .int .i64 v.n, .int .i64 v.e, .string v.s, .slice A v.kids.length cap] 29)).alloc (.cells #[.int .i64 kind] 3)) 3 #[.int .i64 (i64of 0)]
  rw [i64of_zero] at hB
  refine (walk_any (count_yields kind (w.heap.size + 1) (w.heap.size + 2)) v A cap [] _ w.heap.size ⟨by simpa using hQ.alloc _, by simpa [i64of_zero, ofKind] using hB, by omega⟩ (Vs.at_alloc (Vs.at_alloc (Vs.at_alloc HA.out (Nat.le_refl _) _) (by simp) _) (by simp; omega) _) (by simp; omega) (fun k hk => by omega) hn).mono ?_
  rintro e w1 ⟨rfl, hi1, k1⟩
  have c1 := hi1.2.1.cell 0
  simp only [List.nil_append] at c1
  have hL := HL.out
  rw [i64of_small _ (by omega)] at c1
  go_wp2_with fail
  go_ret
  exact ⟨rfl, k1.below ((((Below.refl _ w).alloc (Nat.le_refl _) _).alloc (by simp) _).alloc (by simp; omega) _) (by simp; omega) (fun k hk => by omega)⟩
end Go.Proofs.Ytlfiaccpihjldaa
