/-
  FnExactJsonFits returns true for every value that can be read; it reads as it did; no conditions.
-/
import Derived.Test.YtlfiaccpihjldaaDoorOk
import Derived.BigQuiet
import Derived.Deep.RegionHeld3
import Derived.Handy
import Derived.StillTailTactics
import Derived.Deep.RegionWith
import Derived.Test.YtlfiaccpihjldaaDoorCards
import Derived.Test.YtlfiaccpihjldaaDoorTie
import Derived.Lay
import Derived.LaidOnce
import Derived.SevenTiedAt
/-
  Count: how many values of a kind there are in a value.
-/
namespace Go.Proofs.YtlfiaccpihjldaaDoor
open Go.RowKit
set_option linter.unusedVariables false
set_option linter.unusedSimpArgs false

/-- How many values of a list are of a kind. -/
def ofKind (kind : Int) (l : List V) : Nat := l.countP (fun x => decide (x.k = kind))
theorem ofKind_append (kind : Int) (a b : List V) : ofKind kind (a ++ b) = ofKind kind a + ofKind kind b := List.countP_append
theorem ofKind_len (kind : Int) (l : List V) : ofKind kind l ≤ l.length := List.countP_le_length
theorem ofKind_yes {kind : Int} {v : V} (l : List V) (h : v.k = kind) : ofKind kind (v :: l) = ofKind kind l + 1 := by unfold ofKind; rw [List.countP_cons_of_pos (by simpa using h)]
theorem ofKind_no {kind : Int} {v : V} (l : List V) (h : ¬ v.k = kind) : ofKind kind (v :: l) = ofKind kind l := by unfold ofKind; rw [List.countP_cons_of_neg (by simpa using h)]
theorem ofKind_step (kind : Int) (l : List V) (i : Nat) (h : i < l.length) : ofKind kind (Vs.pre (l.take (i + 1))) = ofKind kind (Vs.pre (l.take i)) + ofKind kind (l[i]).pre := by rw [Vs.pre_step l i h, ofKind_append]
theorem Vs.nodes_take' (l : List V) : ∀ i, Vs.nodes (l.take i) ≤ Vs.nodes l := by
  induction l with
  | nil => intro i; simp
  | cons a l ih =>
    intro i
    cases i with
    | zero => simp [Vs.nodes]
    | succ i => simp only [List.take_succ_cons, Vs.nodes]; have := ih i; omega
theorem ofKind_take (kind : Int) (l : List V) (i : Nat) : ofKind kind (Vs.pre (l.take i)) ≤ Vs.nodes l := by
  have h1 := ofKind_len kind (Vs.pre (l.take i))
  rw [Vs.pre_len] at h1
  exact Nat.le_trans h1 (Vs.nodes_take' l i)
theorem ofKind_one (kind : Int) (v : V) : ofKind kind v.pre ≤ v.nodes := by
  have h1 := ofKind_len kind v.pre
  rwa [V.pre_len] at h1

def SpecCountSaid (v : V) : Prop := ∀ (kind : Int) (A : Option Addr) (cap : Nat) (w : World), v.nodes ≤ 1048577 → Vs.at_ w 0 w.heap.size v.kids A →
    Calls Tryd.prog 49 #[v.agg A cap, .int .i64 kind] w fun e w' => e = .returned (.int .i64 (ofKind kind v.pre)) ∧ Below w.heap.size w w'

set_option maxHeartbeats 2000000 in
theorem specCount_step (v : V) (hk : ∀ i (h : i < v.kids.length), SpecCountSaid v.kids[i]) : SpecCountSaid v := by
  intro kind A cap w hn hat
  rw [V.nodes_eq] at hn
  have hl : v.kids.length ≤ 1048576 := by have := Vs.len_nodes v.kids; omega
  have HK := fun (i : Nat) (h : i < v.kids.length) (A' : Option Addr) (c : Nat) (w' : World) (h1 : Vs.at_ w' 0 w'.heap.size (v.kids[i]).kids A') => hk i h kind A' c w' (by have := Vs.nodes_get i h; omega) h1
  have HC := Lib.hid HK
  clear HK hk
  have HA := Lib.hid hat
  clear hat
  obtain ⟨b0, hb0, hd0, hle0⟩ : ∃ b0 : Nat, ofKind kind v.pre = b0 + ofKind kind (Vs.pre v.kids) ∧ ((v.k == kind) = true ∧ b0 = 1 ∨ (v.k == kind) = false ∧ b0 = 0) ∧ b0 ≤ 1 := by
    by_cases h : v.k = kind
    · exact ⟨1, by rw [V.pre_eq, ofKind_yes _ h]; omega, .inl ⟨by simpa using h, rfl⟩, Nat.le_refl _⟩
    · exact ⟨0, by rw [V.pre_eq, ofKind_no _ h]; omega, .inr ⟨by simpa using h, rfl⟩, by omega⟩
  have HB := Lib.hid hb0
  clear hb0
  unfold V.agg
  rcases hd0 with ⟨hd0, rfl⟩ | ⟨hd0, rfl⟩
  · go_enter Tryd.func49, Tryd.ntmps49
    go_wp2_with fail
    go_loopw [5, 6] (fun d i wr => ∃ j : Nat, j ≤ v.kids.length ∧ i = .int .i64 j ∧ d = .int .i64 ((ofKind kind (Vs.pre (v.kids.take j)) : Int) + 1) ∧ Blk wr w.heap.size 29 #[.int .i64 v.k, .int .i64 v.n, .int .i64 v.e, .string v.s, .slice A v.kids.length cap] ∧ Below w.heap.size w wr) (fun _ i _ => v.kids.length - (intOf i).toNat)
    case atStart => exact ⟨0, Nat.zero_le _, rfl, by simp [Vs.pre, ofKind, hd0], Blk.new _ _ _, (Below.refl _ _).alloc (Nat.le_refl _) _⟩
    case round =>
      obtain ⟨j, hj, rfl, rfl, B, hb⟩ := hrel
      have b4 : wr.cell? ⟨w.heap.size, 4, none⟩ = some (.slice A v.kids.length cap) := B.cell 4
      by_cases hlt : j < v.kids.length
      · have hst := ofKind_step kind v.kids j hlt
        have hd4 := ofKind_take kind v.kids j
        have hd5 := ofKind_one kind v.kids[j]
        have hd6 := Vs.nodes_get j hlt
        have HST := Lib.hid hst
        clear hst
        obtain ⟨b, off, A', cap', rfl, g1, g2, g3, ⟨c0, c1, c2, c3, c4⟩, g5⟩ := Vs.at_get j hlt (Vs.at_below HA.out hb (Nat.le_refl _))
        go_wp2_with fail
        refine (HC.out j hlt A' cap' _ (Vs.at_more (Nat.le_refl _) hb.size _ _ g5)).mono ?_
        rintro e w1 ⟨rfl, hb1⟩
        have hbw : Below w.heap.size w w1 := hb.trans (hb1.mono hb.size)
        have B' := B.below hb1 B.lt
        clear c0 c1 c2 c3 c4 b4
        go_wp2_with fail
        go_roundw
        case rel => exact ⟨j + 1, by omega, by go_num, by rw [HST.out]; go_num, B', hbw⟩
        case measure => simp [intOf]; omega
      · obtain rfl : j = v.kids.length := by omega
        have hd4 := ofKind_take kind v.kids v.kids.length
        rw [List.take_length] at hd4 ⊢
        go_wp2_with fail
        go_ret
        exact ⟨ret_num (by rw [HB.out]; omega), hb⟩
  · go_enter Tryd.func49, Tryd.ntmps49
    go_wp2_with fail
    go_loopw [5, 6] (fun d i wr => ∃ j : Nat, j ≤ v.kids.length ∧ i = .int .i64 j ∧ d = .int .i64 ((ofKind kind (Vs.pre (v.kids.take j)) : Int)) ∧ Blk wr w.heap.size 29 #[.int .i64 v.k, .int .i64 v.n, .int .i64 v.e, .string v.s, .slice A v.kids.length cap] ∧ Below w.heap.size w wr) (fun _ i _ => v.kids.length - (intOf i).toNat)
    case atStart => exact ⟨0, Nat.zero_le _, rfl, by simp [Vs.pre, ofKind, hd0], Blk.new _ _ _, (Below.refl _ _).alloc (Nat.le_refl _) _⟩
    case round =>
      obtain ⟨j, hj, rfl, rfl, B, hb⟩ := hrel
      have b4 : wr.cell? ⟨w.heap.size, 4, none⟩ = some (.slice A v.kids.length cap) := B.cell 4
      by_cases hlt : j < v.kids.length
      · have hst := ofKind_step kind v.kids j hlt
        have hd4 := ofKind_take kind v.kids j
        have hd5 := ofKind_one kind v.kids[j]
        have hd6 := Vs.nodes_get j hlt
        have HST := Lib.hid hst
        clear hst
        obtain ⟨b, off, A', cap', rfl, g1, g2, g3, ⟨c0, c1, c2, c3, c4⟩, g5⟩ := Vs.at_get j hlt (Vs.at_below HA.out hb (Nat.le_refl _))
        go_wp2_with fail
        refine (HC.out j hlt A' cap' _ (Vs.at_more (Nat.le_refl _) hb.size _ _ g5)).mono ?_
        rintro e w1 ⟨rfl, hb1⟩
        have hbw : Below w.heap.size w w1 := hb.trans (hb1.mono hb.size)
        have B' := B.below hb1 B.lt
        clear c0 c1 c2 c3 c4 b4
        go_wp2_with fail
        go_roundw
        case rel => exact ⟨j + 1, by omega, by go_num, by rw [HST.out]; go_num, B', hbw⟩
        case measure => simp [intOf]; omega
      · obtain rfl : j = v.kids.length := by omega
        have hd4 := ofKind_take kind v.kids v.kids.length
        rw [List.take_length] at hd4 ⊢
        go_wp2_with fail
        go_ret
        exact ⟨ret_num (by rw [HB.out]; omega), hb⟩
theorem specCount (v : V) : SpecCountSaid v := V.all specCount_step v

/-- The kind and the count that the walk's function holds. -/
def CountInv (kind : Int) (q g : Nat) (xs : List V) (w : World) : Prop := Blk w q 3 #[.int .i64 kind] ∧ Blk w g 3 #[.int .i64 (i64of (ofKind kind xs))] ∧ q ≠ g
theorem Blk.set_other {w : World} {q g : Nat} {t : TypeId} {cs : Array Value} (h : Blk w q t cs) (hq : q ≠ g) (u : Value) : Blk (w.setCell ⟨g, 0, none⟩ u) q t cs :=
  (Below.heap_setCell w ⟨g, 0, none⟩ u q (by simpa using hq)).trans h

set_option maxHeartbeats 1000000 in
theorem count_yields (kind : Int) (q g N : Nat) : Yields 83 #[.pointer (some ⟨q, 0, none⟩), .pointer (some ⟨g, 0, none⟩)] (CountInv kind q g) (fun _ k => k = g) N where
  enters := enters_of Tryd.func83 (by kernel_rfl) rfl
  alloc := fun xs w o h => ⟨⟨h.1.alloc o, h.2.1.alloc o, h.2.2⟩, fun k hk => ⟨hk, by subst hk; exact h.2.1.lt⟩⟩
  step := by
    intro xs x A c w hi hB hat hhi hD hn _
    obtain ⟨hQ, hB, hne⟩ := hB
    have hlt := hB.lt
    have hlq := hQ.lt
    have HB := Lib.hid hB
    have HQ := Lib.hid hQ
    have c0 : (w.alloc (.cells #[.int .i64 x.k, .int .i64 x.n, .int .i64 x.e, .string x.s, .slice A x.kids.length c] 29)).cell? ⟨g, 0, none⟩ = some (.int .i64 (i64of (ofKind kind xs))) := (hB.alloc _).cell 0
    have q0 : (w.alloc (.cells #[.int .i64 x.k, .int .i64 x.n, .int .i64 x.e, .string x.s, .slice A x.kids.length c] 29)).cell? ⟨q, 0, none⟩ = some (.int .i64 kind) := (hQ.alloc _).cell 0
    have f0 : (w.alloc (.cells #[.int .i64 x.k, .int .i64 x.n, .int .i64 x.e, .string x.s, .slice A x.kids.length c] 29)).frozen? ⟨g, 0, none⟩ = false := (hB.alloc _).frozen 0
    clear hB hQ hat hD
    unfold V.agg
    show Calls Tryd.prog 83 #[_, _, _] w _
    by_cases hk : x.k = kind
    · have hs : ofKind kind (xs ++ [x]) = ofKind kind xs + 1 := by rw [ofKind_append, ofKind_yes _ hk]; rfl
      replace hk : (x.k == kind) = true := by simpa using hk
      have HS := Lib.hid hs
      clear hs
      go_enter Tryd.func83, Tryd.ntmps83
      go_wp2_with fail
      go_end0
      refine ⟨rfl, ⟨(HQ.out.set_other hne _).alloc _, ?_, hne⟩, ?_⟩
      · have h := (HB.out.set1 (.int .i64 (i64of (ofKind kind (xs ++ [x]))))).alloc (.cells #[.int .i64 x.k, .int .i64 x.n, .int .i64 x.e, .string x.s, .slice A x.kids.length c] 29)
        rw [i64of_succ]
        rw [HS.out] at h ⊢
        exact h
      · exact keep_alloc1 (keep_set1 (Keep.refl w) _) _
    · have hs : ofKind kind (xs ++ [x]) = ofKind kind xs := by rw [ofKind_append, ofKind_no _ hk]; rfl
      replace hk : (x.k == kind) = false := by simpa using hk
      have HS := Lib.hid hs
      clear hs
      go_enter Tryd.func83, Tryd.ntmps83
      go_wp2_with fail
      go_end0
      refine ⟨rfl, ⟨HQ.out.alloc _, ?_, hne⟩, keep_alloc1 (Keep.refl w) _⟩
      rw [HS.out]
      exact HB.out.alloc _

set_option maxHeartbeats 1000000 in
theorem implCount (v : V) (kind : Int) (A : Option Addr) (cap : Nat) (w : World) (hn : v.nodes ≤ 1048577) (hat : Vs.at_ w 0 w.heap.size v.kids A) :
    Calls Tryd.prog 48 #[v.agg A cap, .int .i64 kind] w fun e w' => e = .returned (.int .i64 (ofKind kind v.pre)) ∧ Below w.heap.size w w' := by
  have HA := Lib.hid hat
  have HL := Lib.hid (ofKind_one kind v)
  clear hat
  unfold V.agg
  go_enter Tryd.func48, Tryd.ntmps48
  go_wp2_with fail
  have hQ := Blk.new (w.alloc (.cells #[.int .i64 v.k, .int .i64 v.n, .int .i64 v.e, .string v.s, .slice A v.kids.length cap] 29)) 3 #[.int .i64 kind]
  have hB := Blk.new ((w.alloc (.cells #[.int .i64 v.k, .int .i64 v.n, .int .i64 v.e, .string v.s, .slice A v.kids.length cap] 29)).alloc (.cells #[.int .i64 kind] 3)) 3 #[.int .i64 (i64of 0)]
  rw [i64of_zero] at hB
  refine (walk_any (count_yields kind (w.heap.size + 1) (w.heap.size + 2) v.nodes) v A cap [] _ w.heap.size ⟨by simpa using hQ.alloc _, by simpa [i64of_zero, ofKind] using hB, by omega⟩ (Vs.at_alloc (Vs.at_alloc (Vs.at_alloc HA.out (Nat.le_refl _) _) (by simp) _) (by simp; omega) _) (by simp; omega) (fun k hk => by omega) hn (by simp)).mono ?_
  rintro e w1 ⟨rfl, hi1, k1⟩
  have c1 := hi1.2.1.cell 0
  simp only [List.nil_append] at c1
  have hL := HL.out
  rw [i64of_small _ (by omega)] at c1
  go_wp2_with fail
  go_ret
  exact ⟨rfl, k1.below ((((Below.refl _ w).alloc (Nat.le_refl _) _).alloc (by simp) _).alloc (by simp; omega) _) (by simp; omega) (fun k hk => by omega)⟩
end Go.Proofs.YtlfiaccpihjldaaDoor

/-
  What of a right value has a JSON form, plainly.
-/
namespace Go.Proofs.YtlfiaccpihjldaaDoor
open Go.RowKit
set_option linter.unusedVariables false

/-- All keys of a map are texts. -/
def textKeys (v : V) : Prop := v.k = 8 → ∀ i (h : i < v.kids.length), i % 2 = 0 → (v.kids[i]).k = 5
mutual
def V.l04 : V → Prop
  | .mk k n e s ks => textKeys (.mk k n e s ks) ∧ Vs.l04 ks
def Vs.l04 : List V → Prop
  | [] => True
  | v :: r => V.l04 v ∧ Vs.l04 r
end
theorem V.l04_eq (v : V) : V.l04 v ↔ textKeys v ∧ Vs.l04 v.kids := by cases v; simp [V.l04, V.kids]
theorem Vs.l04_iff : ∀ l : List V, Vs.l04 l ↔ ∀ i (h : i < l.length), V.l04 l[i]
  | [] => by simp [Vs.l04]
  | v :: r => by
    simp only [Vs.l04]
    rw [Vs.l04_iff r]
    constructor
    · rintro ⟨h1, h2⟩ i hi
      cases i with
      | zero => exact h1
      | succ i => exact h2 i (by simpa using hi)
    · intro h
      exact ⟨h 0 (by simp), fun i hi => h (i + 1) (by simpa using hi)⟩
theorem Vs.pre_mem {x : V} : ∀ l : List V, x ∈ Vs.pre l ↔ ∃ i, ∃ h : i < l.length, x ∈ (l[i]).pre
  | [] => by simp [Vs.pre]
  | v :: r => by
    simp only [Vs.pre, List.mem_append]
    rw [Vs.pre_mem r]
    constructor
    · rintro (h | ⟨i, hi, h⟩)
      · exact ⟨0, by simp, h⟩
      · exact ⟨i + 1, by simpa using hi, by simpa using h⟩
    · rintro ⟨i, hi, h⟩
      cases i with
      | zero => exact .inl h
      | succ i => exact .inr ⟨i, by simpa using hi, by simpa using h⟩
theorem V.l04_pre : ∀ v : V, V.l04 v ↔ ∀ x ∈ v.pre, textKeys x := by
  refine V.all fun v hk => ?_
  rw [V.l04_eq, Vs.l04_iff, V.pre_eq]
  constructor
  · rintro ⟨h1, h2⟩ x hx
    rcases List.mem_cons.1 hx with rfl | hx
    · exact h1
    · obtain ⟨i, hi, hx⟩ := (Vs.pre_mem _).1 hx
      exact (hk i hi).1 (h2 i hi) x hx
  · intro h
    exact ⟨h v (by simp), fun i hi => (hk i hi).2 fun x hx => h x (by simp [(Vs.pre_mem v.kids).2 ⟨i, hi, hx⟩])⟩
/-- What the program asks of a node. -/
def jNode (v : V) : Prop := v.k ≠ 6 ∧ v.k ≠ 9 ∧ (v.k = 8 → ∀ i (h : 2 * i + 1 < v.kids.length), (v.kids[2 * i]).k = 5)
def jAll (l : List V) : Prop := ∀ x ∈ l, jNode x
theorem jAll_snoc (l : List V) (x : V) : jAll (l ++ [x]) ↔ jAll l ∧ jNode x := by
  unfold jAll
  simp only [List.mem_append, List.mem_singleton]
  exact ⟨fun h => ⟨fun y hy => h y (.inl hy), h x (.inr rfl)⟩, fun h y hy => by
    rcases hy with hy | rfl
    · exact h.1 y hy
    · exact h.2⟩
theorem V.right_pre : ∀ (v : V) (d : Int), V.right d v → ∀ x ∈ v.pre, ∃ d', V.right d' x := by
  refine V.all fun v hk d h x hx => ?_
  rw [V.pre_eq] at hx
  rcases List.mem_cons.1 hx with rfl | hx
  · exact ⟨d, h⟩
  · obtain ⟨i, hi, hx⟩ := (Vs.pre_mem _).1 hx
    exact hk i hi _ ((Vs.right_iff _ _).1 ((V.right_eq _ _).1 h).2.2 i hi) x hx
theorem right_even {d : Int} {v : V} (h : V.right d v) (h8 : v.k = 8) : v.kids.length % 2 = 0 := by
  have h1 := ((V.right_eq _ _).1 h).2.1.2
  unfold kidsOk at h1
  rw [if_neg (by omega), if_neg (by omega), if_pos h8] at h1
  exact h1.2.1
theorem ofKind_zero (kind : Int) (l : List V) : ofKind kind l = 0 ↔ ∀ x ∈ l, x.k ≠ kind := by
  unfold ofKind
  rw [List.countP_eq_zero]
  simp
/-- JsonFits. -/
def jsonOk (v : V) : Prop := okV v ∧ jAll v.pre
theorem jsonOk_iff (v : V) : jsonOk v ↔ okV v ∧ ofKind 6 v.pre = 0 ∧ ofKind 9 v.pre = 0 ∧ V.l04 v := by
  unfold jsonOk
  rw [ofKind_zero, ofKind_zero, V.l04_pre]
  constructor
  · rintro ⟨h, hj⟩
    refine ⟨h, fun x hx => (hj x hx).1, fun x hx => (hj x hx).2.1, fun x hx h8 i hi he => ?_⟩
    obtain ⟨d, hd⟩ := V.right_pre v _ h.1 x hx
    have hev := right_even hd h8
    have h1 := (hj x hx).2.2 h8 (i / 2) (by omega)
    have e : 2 * (i / 2) = i := by omega
    simpa [e] using h1
  · rintro ⟨h, h6, h9, ht⟩
    exact ⟨h, fun x hx => ⟨h6 x hx, h9 x hx, fun h8 i hi => ht x hx h8 (2 * i) (by omega) (by omega)⟩⟩
end Go.Proofs.YtlfiaccpihjldaaDoor

/-
  The text of a mark; a row of texts in memory.
-/
namespace Go.Proofs.YtlfiaccpihjldaaDoor
open Go.RowKit
set_option linter.unusedVariables false
set_option linter.unusedSimpArgs false

/-- The decimal digits of a number ahead of a text. -/
def digB : Nat → Nat → ByteArray → ByteArray
  | 0, _, out => out
  | f + 1, k, out => if k = 0 then out else digB f (k / 10) (str [byteI (48 + (k : Int) % 10)] ++ out)
theorem digB_more : ∀ (f g k : Nat) (out : ByteArray), k ≤ f → k ≤ g → digB f k out = digB g k out
  | 0, 0, _, _, _, _ => rfl
  | 0, g + 1, k, out, h, _ => by
    obtain rfl : k = 0 := by omega
    simp [digB]
  | f + 1, 0, k, out, _, h => by
    obtain rfl : k = 0 := by omega
    simp [digB]
  | f + 1, g + 1, k, out, h, h' => by
    unfold digB
    by_cases hk : k = 0
    · simp [hk]
    · rw [if_neg hk, if_neg hk]
      exact digB_more f g _ _ (by omega) (by omega)
theorem digB_step (k : Nat) (out : ByteArray) (hk : 0 < k) : digB k k out = digB (k / 10) (k / 10) (str [byteI (48 + (k : Int) % 10)] ++ out) := by
  obtain ⟨f, rfl⟩ : ∃ f, k = f + 1 := ⟨k - 1, by omega⟩
  show (if f + 1 = 0 then _ else digB f ((f + 1) / 10) _) = _
  rw [if_neg (by omega)]
  exact digB_more _ _ _ _ (by omega) (Nat.le_refl _)
/-- The letter m and the digits. -/
def mtext (k : Nat) : ByteArray := ByteArray.mk #[109] ++ digB k k ByteArray.empty

/-- How the digits so far and the rest keep below the number. -/
def DigRel (k j n : Nat) : Prop := 10 ^ n * j ≤ k ∧ n ≤ 9 ∧ k ≤ 100000000
theorem DigRel.next {k j n : Nat} (h : DigRel k j n) (hj : 0 < j) : DigRel k (j / 10) (n + 1) := by
  obtain ⟨h1, h2, h3⟩ := h
  have h4 : 10 ^ (n + 1) * (j / 10) ≤ 10 ^ n * j := by
    rw [Nat.pow_succ, Nat.mul_assoc]
    exact Nat.mul_le_mul_left _ (by omega)
  have h5 : n < 9 := by
    rcases Nat.lt_or_ge n 9 with h | h
    · exact h
    · have h6 : 10 ^ 9 ≤ 10 ^ n := Nat.pow_le_pow_right (by omega) h
      have h7 : 10 ^ n * 1 ≤ 10 ^ n * j := Nat.mul_le_mul_left _ hj
      omega
  exact ⟨by omega, by omega, h3⟩
theorem DigRel.small {k j n : Nat} (h : DigRel k j n) : n ≤ 9 := h.2.1

set_option maxHeartbeats 1000000 in
theorem markText (k : Nat) (w : World) (h0 : 0 < k) (hk : k ≤ 100000000) :
    Calls Tryd.prog 100 #[.int .i64 k] w fun e w' => e = .returned (.string (mtext k)) ∧ Below w.heap.size w w' := by
  have hk0 : k ≠ 0 := by omega
  have hkk : k < 9223372036854775808 := by omega
  have HR := Lib.hid (show DigRel k k 0 from ⟨by omega, by omega, hk⟩)
  clear hk
  have hl := lit1 (P := Tryd.prog) 35 9 5 Tryd.underlying35 Tryd.underlying5 Tryd.underlying9
  go_enter Tryd.func100, Tryd.ntmps100
  go_wp2_with fail
  go_loopw [0, 3] (fun i o wr => ∃ (j : Nat) (t : ByteArray), i = .int .i64 j ∧ o = .string t ∧ DigRel k j t.size ∧ digB j j t = digB k k ByteArray.empty ∧ Below w.heap.size w wr) (fun i _ _ => (intOf i).toNat)
  case atStart => exact ⟨k, ByteArray.empty, rfl, rfl, HR.out, rfl, Below.refl _ _⟩
  case round =>
    obtain ⟨j, t, rfl, rfl, hjt, hd, hb⟩ := hrel
    by_cases hj : 0 < j
    · have hs := digB_step j t hj
      have HS := Lib.hid hs
      have HD := Lib.hid hd
      clear hs hd
      have hsz : (str [byteI (48 + (j : Int) % 10)]).size = 1 := str_len _
      have ht9 := hjt.small
      have HJ := Lib.hid (hjt.next hj)
      have hjk : j < 9223372036854775808 := by
        have h1 : 10 ^ t.size * j ≤ k := hjt.1
        have h2 : 1 * j ≤ 10 ^ t.size * j := Nat.mul_le_mul_right _ (Nat.pow_pos (by omega))
        omega
      clear hjt
      go_wp2_with fail
      go_roundw
      case rel => exact ⟨j / 10, str [byteI (48 + (j : Int) % 10)] ++ t, by go_num, rfl, by rw [ByteArray.size_append, hsz, Nat.add_comm]; exact HJ.out, by rw [← HS.out]; exact HD.out, hb.alloc hb.size _⟩
      case measure => simp [intOf]; omega
    · obtain rfl : j = 0 := by omega
      have ht9 := hjt.small
      have ht : mtext k = ByteArray.mk #[109] ++ t := by unfold mtext; rw [← hd]; rfl
      have HT := Lib.hid ht
      clear ht hd
      go_wp2_with fail
      go_ret
      exact ⟨ret_eq (by rw [HT.out]; rfl), hb⟩

/-- A text as a cell. -/
def tv (s : ByteArray) : Value := .string s
theorem row_form {w : World} {base : Nat} {e : TypeId} {o : Value} {n : Nat} {xs : List Value} (h : w.ownsRow base e 1 o n xs) : ∃ A c, o = .slice A n c ∧ (0 < n → ∃ g, A = some ⟨g, 0, none⟩) := by
  rcases h.2 with ⟨rfl, rfl⟩ | ⟨g, c, cur, rfl, _⟩
  · exact ⟨none, 0, rfl, fun h => absurd h (by omega)⟩
  · exact ⟨_, _, rfl, fun _ => ⟨g, rfl⟩⟩
theorem row_cell {w : World} {base g c : Nat} {e : TypeId} {l : List ByteArray} (h : w.ownsRow base e 1 (.slice (some ⟨g, 0, none⟩) l.length c) l.length (l.map tv)) (j : Nat) (hj : j < l.length) : w.cell? ⟨g, j, none⟩ = some (.string l[j]) := by
  rw [h.cellAt j (by omega)]
  simp [hj, tv]

end Go.Proofs.YtlfiaccpihjldaaDoor

/-
  A tree whose rows lie each in a block of its own; the tree marked.
-/
namespace Go.Proofs.YtlfiaccpihjldaaDoor
open Go.RowKit
set_option linter.unusedVariables false
set_option linter.unusedSimpArgs false

/-- A block whose cells may be stored into. -/
def soft (w : World) (b : Nat) : Prop := ∀ q, w.frozen? ⟨b, q, none⟩ = false
theorem soft_same {w w' : World} {b : Nat} (h : soft w b) (hb : w'.heap[b]? = w.heap[b]?) : soft w' b := fun q => by
  have := h q
  unfold World.frozen? at this ⊢
  rw [hb]
  exact this
theorem soft_own {w : World} {base g c n size : Nat} {e : TypeId} {xs : List Value} (h : w.ownsRow base e size (.slice (some ⟨g, 0, none⟩) n c) n xs) : soft w g := fun q => h.frozenAt q

mutual
/-- The kids' rows of a value, each in a block of its own; F: the blocks. -/
def V.lies (w : World) : V → Option Addr → List Nat → Prop
  | .mk _ _ _ _ ks, A, F => (ks = [] ∧ F = []) ∨ ∃ b G, A = some ⟨b, 0, none⟩ ∧ F = b :: G ∧ b < w.heap.size ∧ soft w b ∧ Vs.cells w b 0 ks G
def Vs.cells (w : World) (b : Nat) : Nat → List V → List Nat → Prop
  | _, [], G => G = []
  | off, v :: r, G => ∃ A' cap G1 G2, G = G1 ++ G2 ∧ v.kids.length ≤ cap ∧ CellsAt w b off v A' cap ∧ V.lies w v A' G1 ∧ Vs.cells w b (off + 5) r G2
end
def Vs.lies (w : World) (l : List V) (A : Option Addr) (F : List Nat) : Prop := (l = [] ∧ F = []) ∨ ∃ b G, A = some ⟨b, 0, none⟩ ∧ F = b :: G ∧ b < w.heap.size ∧ soft w b ∧ Vs.cells w b 0 l G
theorem V.lies_kids {w : World} {v : V} {A : Option Addr} {F : List Nat} : V.lies w v A F ↔ Vs.lies w v.kids A F := by
  cases v; simp only [V.lies, Vs.lies, V.kids]

/-- What says nothing of other blocks. -/
def SameIn (F : List Nat) (w w' : World) : Prop := w.heap.size ≤ w'.heap.size ∧ ∀ b ∈ F, w'.heap[b]? = w.heap[b]?
theorem cells_keep {w w' : World} {b off : Nat} {v : V} {A : Option Addr} {c : Nat} (h : CellsAt w b off v A c) (hb : w'.heap[b]? = w.heap[b]?) : CellsAt w' b off v A c :=
  h.keep fun q _ => World.cell?_of_block hb
mutual
theorem V.lies_same {w w' : World} : ∀ (v : V) (A : Option Addr) (F : List Nat), V.lies w v A F → SameIn F w w' → V.lies w' v A F
  | .mk _ _ _ _ ks, A, F, h, hs => by
    simp only [V.lies] at h ⊢
    rcases h with h | ⟨b, G, h1, rfl, h3, h4, h5⟩
    · exact .inl h
    · have hb := hs.2 b (by simp)
      exact .inr ⟨b, G, h1, rfl, Nat.lt_of_lt_of_le h3 hs.1, soft_same h4 hb, Vs.cells_same b 0 ks G h5 hb ⟨hs.1, fun c hc => hs.2 c (by simp [hc])⟩⟩
theorem Vs.cells_same {w w' : World} (b : Nat) : ∀ (off : Nat) (l : List V) (G : List Nat), Vs.cells w b off l G → w'.heap[b]? = w.heap[b]? → SameIn G w w' → Vs.cells w' b off l G
  | _, [], G, h, _, _ => by simp only [Vs.cells] at h ⊢; exact h
  | off, v :: r, G, h, hb, hs => by
    simp only [Vs.cells] at h ⊢
    obtain ⟨A', cap, G1, G2, rfl, h2, h3, h4, h5⟩ := h
    exact ⟨A', cap, G1, G2, rfl, h2, cells_keep h3 hb, V.lies_same v A' G1 h4 ⟨hs.1, fun c hc => hs.2 c (by simp [hc])⟩, Vs.cells_same b (off + 5) r G2 h5 hb ⟨hs.1, fun c hc => hs.2 c (by simp [hc])⟩⟩
end
theorem Vs.lies_same {w w' : World} {l : List V} {A : Option Addr} {F : List Nat} (h : Vs.lies w l A F) (hs : SameIn F w w') : Vs.lies w' l A F := by
  have h1 : V.lies w (.mk 0 0 0 ⟨#[]⟩ l) A F := V.lies_kids.2 h
  exact V.lies_kids.1 (V.lies_same _ A F h1 hs)

/-- One value of a row, and what it takes to put another into its place. -/
theorem Vs.cells_at {w : World} {b : Nat} : ∀ (L : List V) (off : Nat) (G : List Nat) (j : Nat) (h : j < L.length), Vs.cells w b off L G →
    ∃ A' cap G1 Gj G2, G = G1 ++ (Gj ++ G2) ∧ (L[j]).kids.length ≤ cap ∧ CellsAt w b (off + j * 5) L[j] A' cap ∧ V.lies w L[j] A' Gj ∧
      ∀ (w' : World) (v' : V), v'.kids.length = (L[j]).kids.length → CellsAt w' b (off + j * 5) v' A' cap → V.lies w' v' A' Gj →
        (∀ q, (q < off + j * 5 ∨ off + j * 5 + 5 ≤ q) → w'.cell? ⟨b, q, none⟩ = w.cell? ⟨b, q, none⟩) → SameIn (G1 ++ G2) w w' → Vs.cells w' b off (L.set j v') G
  | v :: r, off, G, 0, _, h => by
    simp only [Vs.cells] at h
    obtain ⟨A', cap, G1, G2, rfl, h2, h3, h4, h5⟩ := h
    refine ⟨A', cap, [], G1, G2, by simp, by simpa using h2, by simpa using h3, h4, fun w' v' k1 k2 k3 k4 k5 => ?_⟩
    simp only [List.set_cons_zero, Vs.cells]
    refine ⟨A', cap, G1, G2, rfl, by rw [k1]; exact h2, by simpa using k2, k3, ?_⟩
    have key : ∀ (off' : Nat) (l : List V) (G : List Nat), off + 5 ≤ off' → (∀ c ∈ G, c ∈ G2) → Vs.cells w b off' l G → Vs.cells w' b off' l G := by
      intro off' l
      induction l generalizing off' with
      | nil => intro G _ _ h; simp only [Vs.cells] at h ⊢; exact h
      | cons a l ih =>
        intro G ho hG h
        simp only [Vs.cells] at h ⊢
        obtain ⟨A', cap, H1, H2, rfl, m2, m3, m4, m5⟩ := h
        exact ⟨A', cap, H1, H2, rfl, m2, m3.keep fun q hq => k4 _ (.inr (by omega)), V.lies_same _ _ _ m4 ⟨k5.1, fun c hc => k5.2 c (by simpa using hG c (by simp [hc]))⟩, ih (off' + 5) H2 (by omega) (fun c hc => hG c (by simp [hc])) m5⟩
    exact key (off + 5) r G2 (Nat.le_refl _) (fun c hc => hc) h5
  | v :: r, off, G, j + 1, hj, h => by
    simp only [Vs.cells] at h
    obtain ⟨A', cap, G1, G2, rfl, h2, h3, h4, h5⟩ := h
    obtain ⟨B, cap', H1, Hj, H2, rfl, m2, m3, m4, m5⟩ := Vs.cells_at r (off + 5) G2 j (by simpa using hj) h5
    have he : off + 5 + j * 5 = off + (j + 1) * 5 := by omega
    rw [he] at m3 m5
    refine ⟨B, cap', G1 ++ H1, Hj, H2, by simp, by simpa using m2, by simpa using m3, by simpa using m4, fun w' v' k1 k2 k3 k4 k5 => ?_⟩
    simp only [List.set_cons_succ, Vs.cells]
    refine ⟨A', cap, G1, H1 ++ (Hj ++ H2), by simp, h2, h3.keep fun q hq => k4 _ (.inl (by omega)), V.lies_same _ _ _ h4 ⟨k5.1, fun c hc => k5.2 c (by simp [hc])⟩, m5 w' v' (by simpa using k1) k2 k3 k4 ⟨k5.1, fun c hc => k5.2 c (by simp at hc ⊢; rcases hc with h | h <;> simp [h])⟩⟩
end Go.Proofs.YtlfiaccpihjldaaDoor

/-
  The laws' marks in a tree: markValueS turns a tree whose rows lie apart into the marked tree.
-/
namespace Go.Proofs.YtlfiaccpihjldaaDoor
open Go.RowKit
set_option linter.unusedVariables false
set_option linter.unusedSimpArgs false

mutual
/-- A value marked from k on. -/
def V.mark : V → Nat → V
  | .mk _ _ _ _ ks, k => .mk k ((k + 1 : Nat) : Int) ((k + 2 : Nat) : Int) (mtext (k + 3)) (Vs.mark ks (k + 4))
def Vs.mark : List V → Nat → List V
  | [], _ => []
  | v :: r, k => v.mark k :: Vs.mark r (k + 4 * v.nodes)
end
theorem V.mark_kids (v : V) (k : Nat) : (v.mark k).kids = Vs.mark v.kids (k + 4) := by cases v; simp [V.mark, V.kids]
theorem V.mark_k (v : V) (k : Nat) : (v.mark k).k = (k : Int) := by cases v; simp [V.mark, V.k]
theorem V.mark_n (v : V) (k : Nat) : (v.mark k).n = ((k + 1 : Nat) : Int) := by cases v; simp [V.mark, V.n]
theorem V.mark_e (v : V) (k : Nat) : (v.mark k).e = ((k + 2 : Nat) : Int) := by cases v; simp [V.mark, V.e]
theorem V.mark_s (v : V) (k : Nat) : (v.mark k).s = mtext (k + 3) := by cases v; simp [V.mark, V.s]
theorem Vs.mark_len (l : List V) : ∀ k, (Vs.mark l k).length = l.length := by
  induction l with
  | nil => intro k; simp [Vs.mark]
  | cons v r ih => intro k; simp [Vs.mark, ih]
theorem Vs.mark_snoc (l : List V) (v : V) : ∀ k, Vs.mark (l ++ [v]) k = Vs.mark l k ++ [v.mark (k + 4 * Vs.nodes l)] := by
  induction l with
  | nil => intro k; simp [Vs.mark, Vs.nodes]
  | cons a l ih =>
    intro k
    simp only [List.cons_append, Vs.mark, ih, Vs.nodes]
    rw [show k + 4 * a.nodes + 4 * Vs.nodes l = k + 4 * (a.nodes + Vs.nodes l) by omega]
/-- The first j values marked. -/
def Vs.markTo (l : List V) (k j : Nat) : List V := Vs.mark (l.take j) k ++ l.drop j
theorem Vs.markTo_len (l : List V) (k j : Nat) (h : j ≤ l.length) : (Vs.markTo l k j).length = l.length := by
  unfold Vs.markTo; simp [Vs.mark_len]; omega
theorem Vs.markTo_get (l : List V) (k j : Nat) (h : j < l.length) (h' : j < (Vs.markTo l k j).length) : (Vs.markTo l k j)[j] = l[j] := by
  have hl : (Vs.mark (l.take j) k).length = j := by rw [Vs.mark_len, List.length_take]; omega
  have h2 : (Vs.markTo l k j)[j]? = some l[j] := by
    unfold Vs.markTo
    rw [List.getElem?_append_right (by omega), hl, Nat.sub_self, List.getElem?_drop, Nat.add_zero, List.getElem?_eq_getElem h]
  rw [List.getElem?_eq_getElem h'] at h2
  exact Option.some.inj h2
theorem Vs.markTo_next (l : List V) (k j : Nat) (h : j < l.length) : (Vs.markTo l k j).set j (l[j].mark (k + 4 * Vs.nodes (l.take j))) = Vs.markTo l k (j + 1) := by
  unfold Vs.markTo
  have hl : (Vs.mark (l.take j) k).length = j := by rw [Vs.mark_len, List.length_take]; omega
  rw [List.set_append_right _ _ (by omega), hl, Nat.sub_self, List.drop_eq_getElem_cons h, List.set_cons_zero, List.take_succ_eq_append_getElem h, Vs.mark_snoc]
  simp
theorem Vs.markTo_all (l : List V) (k : Nat) : Vs.markTo l k l.length = Vs.mark l k := by unfold Vs.markTo; simp
theorem Vs.markTo_none (l : List V) (k : Nat) : Vs.markTo l k 0 = l := by unfold Vs.markTo; simp [Vs.mark]

/-- Only blocks of F have changed. -/
structure Touch (F : List Nat) (w w' : World) : Prop where
  os : w'.os = w.os
  tape : w'.tape = w.tape
  output : w'.output = w.output
  size : w.heap.size ≤ w'.heap.size
  block : ∀ c, c < w.heap.size → c ∉ F → w'.heap[c]? = w.heap[c]?
theorem Touch.refl (F : List Nat) (w : World) : Touch F w w := ⟨rfl, rfl, rfl, Nat.le_refl _, fun _ _ _ => rfl⟩
theorem Touch.trans {F : List Nat} {a b c : World} (h : Touch F a b) (k : Touch F b c) : Touch F a c :=
  ⟨k.os.trans h.os, k.tape.trans h.tape, k.output.trans h.output, Nat.le_trans h.size k.size, fun i hi hf => (k.block i (Nat.lt_of_lt_of_le hi h.size) hf).trans (h.block i hi hf)⟩
theorem Touch.more {F G : List Nat} {a b : World} (h : Touch F a b) (hs : ∀ c ∈ F, c ∈ G) : Touch G a b :=
  ⟨h.os, h.tape, h.output, h.size, fun i hi hf => h.block i hi fun h' => hf (hs i h')⟩
theorem Touch.of_below {F : List Nat} {a b : World} (h : Below a.heap.size a b) : Touch F a b := ⟨h.os, h.tape, h.output, h.size, fun i hi _ => h.block i hi⟩
theorem Touch.set {F : List Nat} {a b : World} (h : Touch F a b) {p : Addr} (hp : p.block ∈ F) (u : Value) : Touch F a (b.setCell p u) :=
  ⟨h.os, h.tape, h.output, by simpa using h.size, fun i hi hf => (Below.heap_setCell b p u i (fun e => hf (by rw [e]; exact hp))).trans (h.block i hi hf)⟩

/-- How one value of a row is marked. -/
theorem mark_round {w : World} {b : Nat} {l : List V} {k j : Nat} {G : List Nat} (h : j < l.length) (hc : Vs.cells w b 0 (Vs.markTo l k j) G) :
    ∃ A' cap G1 Gj G2, G = G1 ++ (Gj ++ G2) ∧ CellsAt w b (j * 5) l[j] A' cap ∧ Vs.lies w (l[j]).kids A' Gj ∧
      ∀ w' : World, CellsAt w' b (j * 5) (l[j].mark (k + 4 * Vs.nodes (l.take j))) A' cap → Vs.lies w' (Vs.mark (l[j]).kids (k + 4 * Vs.nodes (l.take j) + 4)) A' Gj →
        (∀ q, (q < j * 5 ∨ j * 5 + 5 ≤ q) → w'.cell? ⟨b, q, none⟩ = w.cell? ⟨b, q, none⟩) → SameIn (G1 ++ G2) w w' → Vs.cells w' b 0 (Vs.markTo l k (j + 1)) G := by
  have hl : j < (Vs.markTo l k j).length := by rw [Vs.markTo_len l k j (Nat.le_of_lt h)]; exact h
  obtain ⟨A', cap, G1, Gj, G2, h1, h2, h3, h4, h5⟩ := Vs.cells_at (Vs.markTo l k j) 0 G j hl hc
  rw [Vs.markTo_get l k j h hl] at h2 h3 h4 h5
  rw [Nat.zero_add] at h3 h5
  refine ⟨A', cap, G1, Gj, G2, h1, h3, V.lies_kids.1 h4, fun w' k1 k2 k3 k4 => ?_⟩
  rw [← Vs.markTo_next l k j h]
  exact h5 w' _ (by rw [V.mark_kids, Vs.mark_len]) k1 (V.lies_kids.2 (by rw [V.mark_kids]; exact k2)) k3 k4
end Go.Proofs.YtlfiaccpihjldaaDoor

/-
  The laws' marks in a tree: the walk of markValueS and markValue.
-/
namespace Go.Proofs.YtlfiaccpihjldaaDoor
open Go.RowKit
set_option linter.unusedVariables false
set_option linter.unusedSimpArgs false

def MarkSaid (l : List V) : Prop := ∀ (A : Option Addr) (cap k : Nat) (w : World) (F : List Nat), 0 < k → k + 4 * Vs.nodes l ≤ 10000000 → Vs.lies w l A F → F.Nodup →
    Calls Tryd.prog 64 #[.slice A l.length cap, .int .i64 k] w fun e w' => e = .returned (.int .i64 ((k + 4 * Vs.nodes l : Nat) : Int)) ∧ Vs.lies w' (Vs.mark l k) A F ∧ Touch F w w'

/-- What the loop has done behind j values. -/
def MkRel (l : List V) (b : Nat) (G : List Nat) (k : Nat) (w : World) (q i : Value) (wr : World) : Prop :=
  ∃ j : Nat, j ≤ l.length ∧ i = .int .i64 j ∧ q = .int .i64 ((k + 4 * Vs.nodes (l.take j) : Nat) : Int) ∧ b < wr.heap.size ∧ soft wr b ∧ Vs.cells wr b 0 (Vs.markTo l k j) G ∧ Touch (b :: G) w wr

theorem nodes_step (l : List V) (j : Nat) (h : j < l.length) : Vs.nodes (l.take (j + 1)) = Vs.nodes (l.take j) + (l[j]).nodes := by
  rw [List.take_succ_eq_append_getElem h]
  have : ∀ a : List V, ∀ v : V, Vs.nodes (a ++ [v]) = Vs.nodes a + v.nodes := by
    intro a v
    induction a with
    | nil => simp [Vs.nodes]
    | cons x a ih => simp only [List.cons_append, Vs.nodes, ih]; omega
  exact this _ _
theorem nodes_take_le (l : List V) (j : Nat) (h : j < l.length) : Vs.nodes (l.take j) + (l[j]).nodes ≤ Vs.nodes l := by
  have h1 := nodes_step l j h
  have : ∀ (a : List V) (i : Nat), Vs.nodes (a.take i) ≤ Vs.nodes a := by
    intro a
    induction a with
    | nil => intro i; simp
    | cons x a ih =>
      intro i
      cases i with
      | zero => simp [Vs.nodes]
      | succ i => simp only [List.take_succ_cons, Vs.nodes]; have := ih i; omega
  have h2 := this l (j + 1)
  omega

/-- The three numbers of a value, marked. -/
def mark3 (w : World) (b o : Nat) (k : Nat) : World := ((w.setCell ⟨b, o, none⟩ (.int .i64 (k : Int))).setCell ⟨b, o + 1, none⟩ (.int .i64 ((k : Int) + 1))).setCell ⟨b, o + 2, none⟩ (.int .i64 ((k : Int) + 2))
theorem mark3_size (w : World) (b o k : Nat) : (mark3 w b o k).heap.size = w.heap.size := by simp [mark3]
theorem mark3_other {w : World} {b o k : Nat} {p : Addr} (h : p.block ≠ b ∨ p.off < o ∨ o + 3 ≤ p.off) : (mark3 w b o k).cell? p = w.cell? p := by
  unfold mark3
  rw [World.cell?_setCell_other _ _ _ _ (addr_ne (G := b) (q := o + 2) (by omega)), World.cell?_setCell_other _ _ _ _ (addr_ne (G := b) (q := o + 1) (by omega)), World.cell?_setCell_other _ _ _ _ (addr_ne (G := b) (q := o) (by omega))]
theorem mark3_block {w : World} {b o k : Nat} {c : Nat} (h : c ≠ b) : (mark3 w b o k).heap[c]? = w.heap[c]? := by
  unfold mark3
  rw [Below.heap_setCell _ _ _ _ (by exact h), Below.heap_setCell _ _ _ _ (by exact h), Below.heap_setCell _ _ _ _ (by exact h)]
theorem mark3_frozen (w : World) (b o k : Nat) (p : Addr) : (mark3 w b o k).frozen? p = w.frozen? p := by simp [mark3]
theorem mark3_touch {F : List Nat} {a w : World} {b o k : Nat} (h : Touch F a w) (hb : b ∈ F) : Touch F a (mark3 w b o k) := ((h.set hb _).set hb _).set hb _
theorem mark3_at {w : World} {b o k : Nat} {v : V} {A : Option Addr} {c : Nat} (h : CellsAt w b o v A c) :
    (mark3 w b o k).cell? ⟨b, o, none⟩ = some (.int .i64 (k : Int)) ∧ (mark3 w b o k).cell? ⟨b, o + 1, none⟩ = some (.int .i64 ((k : Int) + 1)) ∧ (mark3 w b o k).cell? ⟨b, o + 2, none⟩ = some (.int .i64 ((k : Int) + 2)) := by
  obtain ⟨h0, h1, h2, h3, h4⟩ := h
  have ne : ∀ {a c : Nat}, a ≠ c → (⟨b, a, none⟩ : Addr) ≠ ⟨b, c, none⟩ := fun h e => h (by injection e)
  unfold mark3
  refine ⟨?_, ?_, ?_⟩
  · rw [World.cell?_setCell_other _ _ _ _ (ne (by omega)), World.cell?_setCell_other _ _ _ _ (ne (by omega))]
    exact World.cell?_setCell_same _ _ _ h0
  · rw [World.cell?_setCell_other _ _ _ _ (ne (by omega))]
    exact World.cell?_setCell_same _ _ _ ((World.cell?_setCell_other _ _ _ _ (ne (by omega))).trans h1)
  · exact World.cell?_setCell_same _ _ _ ((World.cell?_setCell_other _ _ _ _ (ne (by omega))).trans ((World.cell?_setCell_other _ _ _ _ (ne (by omega))).trans h2))

/-- The whole round, said of worlds alone. -/
theorem mk_next {l : List V} {b k j cap : Nat} {G G1 Gj G2 : List Nat} {A' : Option Addr} {w wr w1 w6 : World} (hj : j < l.length) (hG : G = G1 ++ (Gj ++ G2)) (hnd : (b :: G).Nodup) (hbl : b < wr.heap.size) (hs : soft wr b)
    (hG0 : ∀ c ∈ G, c < wr.heap.size)
    (hc : CellsAt wr b (j * 5) l[j] A' cap) (ht : Touch (b :: G) w wr)
    (hcont : ∀ w' : World, CellsAt w' b (j * 5) (l[j].mark (k + 4 * Vs.nodes (l.take j))) A' cap → Vs.lies w' (Vs.mark (l[j]).kids (k + 4 * Vs.nodes (l.take j) + 4)) A' Gj →
        (∀ q, (q < j * 5 ∨ j * 5 + 5 ≤ q) → w'.cell? ⟨b, q, none⟩ = wr.cell? ⟨b, q, none⟩) → SameIn (G1 ++ G2) wr w' → Vs.cells w' b 0 (Vs.markTo l k (j + 1)) G)
    (hb1 : Below (mark3 wr b (j * 5) (k + 4 * Vs.nodes (l.take j))).heap.size (mark3 wr b (j * 5) (k + 4 * Vs.nodes (l.take j))) w1)
    (h6 : Vs.lies w6 (Vs.mark (l[j]).kids (k + 4 * Vs.nodes (l.take j) + 4)) A' Gj) (t6 : Touch Gj (w1.setCell ⟨b, j * 5 + 3, none⟩ (.string (mtext (k + 4 * Vs.nodes (l.take j) + 3)))) w6) {q i : Value} (hi : i = .int .i64 ((j : Int) + 1))
    (hq : q = .int .i64 ((k + 4 * Vs.nodes (l.take j) + 4 + 4 * Vs.nodes (l[j]).kids : Nat) : Int)) : MkRel l b G k w q i w6 := by
  subst hi hq
  have hnb : b ∉ G := (List.nodup_cons.1 hnd).1
  have hnG := (List.nodup_cons.1 hnd).2
  have hsz : (mark3 wr b (j * 5) (k + 4 * Vs.nodes (l.take j))).heap.size = wr.heap.size := mark3_size _ _ _ _
  have hw1 : wr.heap.size ≤ w1.heap.size := by rw [← hsz]; exact hb1.size
  have hw6 : w1.heap.size ≤ w6.heap.size := by have := t6.size; simpa using this
  have hbj : b ∉ Gj := fun h => hnb (by rw [hG]; simp [h])
  -- block b of w6
  have hb6 : w6.heap[b]? = (w1.setCell ⟨b, j * 5 + 3, none⟩ (.string (mtext (k + 4 * Vs.nodes (l.take j) + 3)))).heap[b]? := t6.block b (by simp; omega) hbj
  have hb1' : w1.heap[b]? = (mark3 wr b (j * 5) (k + 4 * Vs.nodes (l.take j))).heap[b]? := hb1.block b (by rw [hsz]; exact hbl)
  have cell6 : ∀ o, w6.cell? ⟨b, o, none⟩ = (w1.setCell ⟨b, j * 5 + 3, none⟩ (.string (mtext (k + 4 * Vs.nodes (l.take j) + 3)))).cell? ⟨b, o, none⟩ := fun o => World.cell?_of_block hb6
  have cell1 : ∀ o, w1.cell? ⟨b, o, none⟩ = (mark3 wr b (j * 5) (k + 4 * Vs.nodes (l.take j))).cell? ⟨b, o, none⟩ := fun o => World.cell?_of_block hb1'
  have ne : ∀ {a c : Nat}, a ≠ c → (⟨b, a, none⟩ : Addr) ≠ ⟨b, c, none⟩ := fun h e => h (by injection e)
  obtain ⟨m0, m1, m2⟩ := mark3_at (k := k + 4 * Vs.nodes (l.take j)) hc
  have hcell3 : w1.cell? ⟨b, j * 5 + 3, none⟩ = some (.string l[j].s) := by rw [cell1, mark3_other (.inr (.inr (Nat.le_refl _)))]; exact hc.2.2.2.1
  have fin : Vs.cells w6 b 0 (Vs.markTo l k (j + 1)) G := by
    refine hcont w6 ⟨?_, ?_, ?_, ?_, ?_⟩ h6 ?_ ⟨by omega, ?_⟩
    · rw [cell6, World.cell?_setCell_other _ _ _ _ (ne (by omega)), cell1, m0, V.mark_k]
    · rw [cell6, World.cell?_setCell_other _ _ _ _ (ne (by omega)), cell1, m1, V.mark_n]; rfl
    · rw [cell6, World.cell?_setCell_other _ _ _ _ (ne (by omega)), cell1, m2, V.mark_e]; rfl
    · rw [cell6, V.mark_s]; exact World.cell?_setCell_same _ _ _ hcell3
    · rw [cell6, World.cell?_setCell_other _ _ _ _ (ne (by omega)), cell1, mark3_other (.inr (.inr (by show j * 5 + 3 ≤ j * 5 + 4; omega))), V.mark_kids, Vs.mark_len]; exact hc.2.2.2.2
    · intro o ho
      rw [cell6, World.cell?_setCell_other _ _ _ _ (ne (by omega)), cell1, mark3_other (by rcases ho with ho | ho; exact .inr (.inl ho); exact .inr (.inr (by show j * 5 + 3 ≤ o; omega)))]
    · intro c hcG
      have hcg : c ∈ G := by rw [hG]; simp at hcG ⊢; rcases hcG with h | h <;> simp [h]
      have hcb : c ≠ b := fun e => hnb (e ▸ hcg)
      have hcl := hG0 c hcg
      have hcj : c ∉ Gj := fun h => by
        rw [hG] at hnG
        rcases List.mem_append.1 hcG with h1 | h1
        · exact (List.nodup_append.1 hnG).2.2 c h1 c (List.mem_append.2 (.inl h)) rfl
        · exact (List.nodup_append.1 (List.nodup_append.1 hnG).2.1).2.2 c h c h1 rfl
      rw [t6.block c (by simp; omega) hcj, Below.heap_setCell _ _ _ _ (by exact hcb), hb1.block c (by rw [hsz]; exact hcl), mark3_block hcb]
  refine ⟨j + 1, by omega, by go_num, ?_, by omega, ?_, fin, ?_⟩
  · rw [nodes_step l j hj, V.nodes_eq]
    congr 1
    omega
  · intro o
    have h1 := World.frozen?_of_block (a := ⟨b, o, none⟩) hb6
    rw [h1, World.frozen?_setCell]
    have h2 := World.frozen?_of_block (a := ⟨b, o, none⟩) hb1'
    rw [h2, mark3_frozen]
    exact hs o
  · have h1 := mark3_touch (o := j * 5) (k := k + 4 * Vs.nodes (l.take j)) ht (List.mem_cons_self (a := b) (l := G))
    have h2 := h1.trans (Touch.of_below hb1)
    have h3 := h2.set (p := ⟨b, j * 5 + 3, none⟩) (List.mem_cons_self (a := b) (l := G)) (.string (mtext (k + 4 * Vs.nodes (l.take j) + 3)))
    exact h3.trans (t6.more fun c h => by rw [hG]; simp [h])

mutual
theorem V.lies_lt {w : World} : ∀ (v : V) (A : Option Addr) (F : List Nat), V.lies w v A F → ∀ c ∈ F, c < w.heap.size
  | .mk _ _ _ _ ks, A, F, h, c, hc => by
    simp only [V.lies] at h
    rcases h with ⟨_, rfl⟩ | ⟨b, G, h1, rfl, h3, h4, h5⟩
    · cases hc
    · rcases List.mem_cons.1 hc with rfl | hc
      · exact h3
      · exact Vs.cells_lt b 0 ks G h5 c hc
theorem Vs.cells_lt {w : World} (b : Nat) : ∀ (off : Nat) (l : List V) (G : List Nat), Vs.cells w b off l G → ∀ c ∈ G, c < w.heap.size
  | _, [], G, h, c, hc => by simp only [Vs.cells] at h; subst h; cases hc
  | off, v :: r, G, h, c, hc => by
    simp only [Vs.cells] at h
    obtain ⟨A', cap, G1, G2, rfl, h2, h3, h4, h5⟩ := h
    rcases List.mem_append.1 hc with hc | hc
    · exact V.lies_lt v A' G1 h4 c hc
    · exact Vs.cells_lt b (off + 5) r G2 h5 c hc
end

set_option maxHeartbeats 2000000 in
theorem mark_step (l : List V) (hk : ∀ i (h : i < l.length), MarkSaid (l[i]).kids) : MarkSaid l := by
  intro A cap k w F hk0 hkn hl hnd
  have hlen := Vs.len_nodes l
  have HC := Lib.hid hk
  clear hk
  rcases hl with ⟨rfl, rfl⟩ | ⟨b, G, rfl, rfl, hbl, hsf, hcs⟩
  · go_enter Tryd.func64, Tryd.ntmps64
    go_wp2_with fail
    go_rounds 1
    go_ret
    exact ⟨rfl, .inl ⟨rfl, rfl⟩, Touch.refl _ _⟩
  · have HCS := Lib.hid (show Vs.cells w b 0 (Vs.markTo l k 0) G by rw [Vs.markTo_none]; exact hcs)
    have HND := Lib.hid hnd
    have HSF := Lib.hid hsf
    clear hcs hnd hsf
    go_enter Tryd.func64, Tryd.ntmps64
    go_wp2_with fail
    go_loopw [1, 5] (fun q i wr => MkRel l b G k w q i wr) (fun _ i _ => l.length - (intOf i).toNat)
    case atStart => exact ⟨0, Nat.zero_le _, rfl, by simp [Vs.nodes], hbl, HSF.out, HCS.out, Touch.refl _ _⟩
    case round =>
      obtain ⟨j, hj, rfl, rfl, hb1, hs1, hc1, ht1⟩ := hrel
      by_cases hlt : j < l.length
      · have hnt := nodes_take_le l j hlt
        rw [V.nodes_eq] at hnt
        have HB0 := Lib.hid (Vs.cells_lt b 0 _ G hc1)
        obtain ⟨A', cap', G1, Gj, G2, hG, hc, hlj, hcont⟩ := mark_round hlt hc1
        have HCELL := Lib.hid hc
        have HNX := Lib.hid (fun w1 w6 q i => mk_next (w1 := w1) (w6 := w6) (q := q) (i := i) hlt hG HND.out hb1 hs1 HB0.out hc ht1 hcont)
        have hGj : ∀ c ∈ Gj, c ∈ G := fun c h => by rw [hG]; simp [h]
        have hnj : Gj.Nodup := by
          have h1 := (List.nodup_cons.1 HND.out).2
          rw [hG] at h1
          exact (List.nodup_append.1 (List.nodup_append.1 h1).2.1).1
        have hbj : b ∉ Gj := fun h => (List.nodup_cons.1 HND.out).1 (hGj b h)
        have HGJ := Lib.hid hGj
        have HNJ := Lib.hid hnj
        have HBJ := Lib.hid hbj
        have HLJ := Lib.hid hlj
        obtain ⟨m, hm⟩ : ∃ m, k + 4 * Vs.nodes (l.take j) = m := ⟨_, rfl⟩
        rw [hm] at HNX ⊢
        have hmb : m + 4 + 4 * Vs.nodes (l[j]).kids ≤ 10000000 := by omega
        obtain ⟨c0, c1, c2, c3, c4⟩ := hc
        have k0 := hs1 (j * 5)
        have k1 := hs1 (j * 5 + 1)
        have k2 := hs1 (j * 5 + 2)
        have hm0 : 0 < m := by omega
        have HM := Lib.hid hm
        have HS1 := Lib.hid hs1
        clear hG hlj hcont hGj hnj hbj hm hs1 hc1 ht1
        go_wp2_with fail
        refine (markText (m + 3) _ (by omega) (by omega)).mono ?_
        rintro e w1 ⟨rfl, hbt⟩
        have hbt' : Below (mark3 wr b (j * 5) m).heap.size (mark3 wr b (j * 5) m) w1 := hbt
        have hsz3 := mark3_size wr b (j * 5) m
        have hblk : ∀ c, c < wr.heap.size → w1.heap[c]? = (mark3 wr b (j * 5) m).heap[c]? := fun c h => hbt'.block c (by rw [hsz3]; exact h)
        have hw1 : wr.heap.size ≤ w1.heap.size := by have := hbt'.size; omega
        have d3 : w1.cell? ⟨b, j * 5 + 3, none⟩ = some (.string l[j].s) := by
          rw [World.cell?_of_block (a := ⟨b, j * 5 + 3, none⟩) (hblk b hb1), mark3_other (.inr (.inr (Nat.le_refl _)))]; exact c3
        have d4 : w1.cell? ⟨b, j * 5 + 4, none⟩ = some (.slice A' (l[j]).kids.length cap') := by
          rw [World.cell?_of_block (a := ⟨b, j * 5 + 4, none⟩) (hblk b hb1), mark3_other (.inr (.inr (by show j * 5 + 3 ≤ j * 5 + 4; omega)))]; exact c4
        have e3 : w1.frozen? ⟨b, j * 5 + 3, none⟩ = false := by
          rw [World.frozen?_of_block (a := ⟨b, j * 5 + 3, none⟩) (hblk b hb1), mark3_frozen]; exact HS1.out _
        have HBT := Lib.hid hbt'
        have HBLK := Lib.hid hblk
        clear c0 c1 c2 c3 c4 k0 k1 k2 hbt hbt' hblk hsz3
        go_wp2_with fail
        have hl5 : Vs.lies (w1.setCell ⟨b, j * 5 + 3, none⟩ (.string (mtext (m + 3)))) (l[j]).kids A' Gj := by
          refine Vs.lies_same HLJ.out ⟨by simpa using hw1, fun c hc => ?_⟩
          have hcb : c ≠ b := fun e => HBJ.out (e ▸ hc)
          rw [Below.heap_setCell _ _ _ _ (by exact hcb), HBLK.out c (HB0.out c (HGJ.out c hc)), mark3_block hcb]
        refine (HC.out j hlt A' cap' (m + 4) _ Gj (by omega) (by omega) hl5 HNJ.out).mono ?_
        rintro e w6 ⟨rfl, hl6, ht6⟩
        have HL6 := Lib.hid hl6
        have HT6 := Lib.hid ht6
        clear hl5 hl6 ht6 d3 d4 e3
        go_wp2_with fail
        go_roundw
        case rel => exact HNX.out w1 w6 _ _ HBT.out HL6.out HT6.out rfl (by go_num)
        case measure => simp [intOf]; omega
      · obtain rfl : j = l.length := by omega
        rw [List.take_length, Vs.markTo_all] at *
        have HT := Lib.hid ht1
        have HCC := Lib.hid hc1
        have HSS := Lib.hid hs1
        clear ht1 hc1 hs1
        go_wp2_with fail
        go_ret
        exact ⟨rfl, .inr ⟨b, G, rfl, rfl, hb1, HSS.out, HCC.out⟩, HT.out⟩
end Go.Proofs.YtlfiaccpihjldaaDoor

/-
  The laws' marks in a tree: they are all put, and whether they are still held.
-/
namespace Go.Proofs.YtlfiaccpihjldaaDoor
open Go.RowKit
set_option linter.unusedVariables false
set_option linter.unusedSimpArgs false

theorem markS_any (l : List V) : MarkSaid l := by
  have h : ∀ v : V, MarkSaid v.kids := V.all (fun v hk => mark_step v.kids hk)
  exact h (.mk 0 0 0 ⟨#[]⟩ l)

set_option maxHeartbeats 1000000 in
theorem markValue_any (v : V) (A : Option Addr) (cap k : Nat) (w : World) (F : List Nat) (hk0 : 0 < k) (hkn : k + 4 * Vs.nodes v.kids ≤ 10000000) (hl : Vs.lies w v.kids A F) (hnd : F.Nodup) :
    Calls Tryd.prog 20 #[v.agg A cap, .int .i64 k] w fun e w' => e = .returned (.int .i64 ((k + 4 * Vs.nodes v.kids : Nat) : Int)) ∧ Vs.lies w' (Vs.mark v.kids k) A F ∧ Touch F w w' := by
  have hlt : ∀ c ∈ F, c < w.heap.size := by
    have h1 : V.lies w (.mk 0 0 0 ⟨#[]⟩ v.kids) A F := V.lies_kids.2 hl
    exact V.lies_lt _ A F h1
  have hA : ∀ o, Vs.lies (w.alloc o) v.kids A F := fun o => Vs.lies_same hl ⟨by simp, fun c hc => Below.heap_alloc w o c (hlt c hc)⟩
  have HA := Lib.hid hA
  have HND := Lib.hid hnd
  clear hA hl hnd hlt
  unfold V.agg
  go_enter Tryd.func20, Tryd.ntmps20
  go_wp2_with fail
  refine (markS_any v.kids A _ k _ F hk0 hkn (HA.out _) HND.out).mono ?_
  rintro e w1 ⟨rfl, hl1, ht1⟩
  have HL := Lib.hid hl1
  have HT := Lib.hid ht1
  clear hl1 ht1
  go_wp2_with fail
  go_ret
  exact ⟨rfl, HL.out, (Touch.of_below ((Below.refl _ w).alloc (Nat.le_refl _) _)).trans HT.out⟩

theorem Vs.mark_get (l : List V) (k j : Nat) (h : j < l.length) : (Vs.mark l k)[j]? = some (l[j].mark (k + 4 * Vs.nodes (l.take j))) := by
  have h1 : Vs.mark l k = Vs.markTo l k l.length := (Vs.markTo_all l k).symm
  have h2 : (l.take (j + 1)) ++ l.drop (j + 1) = l := List.take_append_drop _ _
  have h3 : ∀ (a b : List V) (k : Nat), Vs.mark (a ++ b) k = Vs.mark a k ++ Vs.mark b (k + 4 * Vs.nodes a) := by
    intro a
    induction a with
    | nil => intro b k; simp [Vs.mark, Vs.nodes]
    | cons x a ih =>
      intro b k
      simp only [List.cons_append, Vs.mark, ih, Vs.nodes]
      rw [show k + 4 * x.nodes + 4 * Vs.nodes a = k + 4 * (x.nodes + Vs.nodes a) by omega]
  have h4 : Vs.mark l k = Vs.mark (l.take (j + 1)) k ++ Vs.mark (l.drop (j + 1)) (k + 4 * Vs.nodes (l.take (j + 1))) := by rw [← h3, h2]
  rw [h4, List.take_succ_eq_append_getElem h, Vs.mark_snoc]
  have hl : (Vs.mark (l.take j) k).length = j := by rw [Vs.mark_len, List.length_take]; omega
  rw [List.getElem?_append_left (by simp [hl]), List.getElem?_append_right (by omega), hl, Nat.sub_self]
  rfl

def HeldSaid (l : List V) : Prop := ∀ (A : Option Addr) (cap k : Nat) (w : World) (F : List Nat), 0 < k → k + 4 * Vs.nodes l ≤ 10000000 → Vs.lies w (Vs.mark l k) A F →
    Calls Tryd.prog 65 #[.slice A l.length cap, .int .i64 k] w fun e w' => e = .returned (.int .i64 ((k + 4 * Vs.nodes l : Nat) : Int)) ∧ Below w.heap.size w w'

theorem lies_below {w w' : World} {l : List V} {A : Option Addr} {F : List Nat} (h : Vs.lies w l A F) {B : Nat} (hb : Below B w w') (hB : ∀ c ∈ F, c < B) : Vs.lies w' l A F :=
  Vs.lies_same h ⟨hb.size, fun c hc => hb.block c (hB c hc)⟩
theorem lies_lt {w : World} {l : List V} {A : Option Addr} {F : List Nat} (h : Vs.lies w l A F) : ∀ c ∈ F, c < w.heap.size := by
  have h1 : V.lies w (.mk 0 0 0 ⟨#[]⟩ l) A F := V.lies_kids.2 h
  exact V.lies_lt _ A F h1

/-- One marked value of a row. -/
theorem held_cell {w : World} {l : List V} {k j b : Nat} {G : List Nat} (h : Vs.cells w b 0 (Vs.mark l k) G) (hj : j < l.length) :
    ∃ (A' : Option Addr) (cap : Nat) (Gj : List Nat), w.cell? ⟨b, j * 5, none⟩ = some (.int .i64 ((k + 4 * Vs.nodes (l.take j) : Nat) : Int)) ∧ w.cell? ⟨b, j * 5 + 1, none⟩ = some (.int .i64 (((k + 4 * Vs.nodes (l.take j) : Nat) : Int) + 1)) ∧
      w.cell? ⟨b, j * 5 + 2, none⟩ = some (.int .i64 (((k + 4 * Vs.nodes (l.take j) : Nat) : Int) + 2)) ∧ w.cell? ⟨b, j * 5 + 3, none⟩ = some (.string (mtext (k + 4 * Vs.nodes (l.take j) + 3))) ∧
      w.cell? ⟨b, j * 5 + 4, none⟩ = some (.slice A' (l[j]).kids.length cap) ∧ Vs.lies w (Vs.mark (l[j]).kids (k + 4 * Vs.nodes (l.take j) + 4)) A' Gj := by
  have hl : j < (Vs.mark l k).length := by rw [Vs.mark_len]; exact hj
  have hg : (Vs.mark l k)[j] = l[j].mark (k + 4 * Vs.nodes (l.take j)) := by
    have := Vs.mark_get l k j hj
    rw [List.getElem?_eq_getElem hl] at this
    exact Option.some.inj this
  obtain ⟨A', cap, G1, Gj, G2, h1, h2, h3, h4, _⟩ := Vs.cells_at (Vs.mark l k) 0 G j hl h
  rw [hg, Nat.zero_add] at h3
  rw [hg] at h4
  obtain ⟨c0, c1, c2, c3, c4⟩ := h3
  rw [V.mark_k] at c0
  rw [V.mark_n] at c1
  rw [V.mark_e] at c2
  rw [V.mark_s] at c3
  rw [V.mark_kids, Vs.mark_len] at c4
  have h5 := V.lies_kids.1 h4
  rw [V.mark_kids] at h5
  exact ⟨A', cap, Gj, c0, c1, c2, c3, c4, h5⟩

set_option maxHeartbeats 2000000 in
theorem held_step (l : List V) (hk : ∀ i (h : i < l.length), HeldSaid (l[i]).kids) : HeldSaid l := by
  intro A cap k w F hk0 hkn hl
  have hlen := Vs.len_nodes l
  have HC := Lib.hid hk
  have HLT := Lib.hid (lies_lt hl)
  clear hk
  rcases hl with ⟨h0, rfl⟩ | ⟨b, G, rfl, rfl, hbl, hsf, hcs⟩
  · obtain rfl : l = [] := by
      have h1 := congrArg List.length h0
      rw [Vs.mark_len] at h1
      simpa using h1
    go_enter Tryd.func65, Tryd.ntmps65
    go_wp2_with fail
    go_rounds 1
    go_ret
    exact ⟨rfl, Below.refl _ _⟩
  · have HCS := Lib.hid (show Vs.lies w (Vs.mark l k) (some ⟨b, 0, none⟩) (b :: G) from .inr ⟨b, G, rfl, rfl, hbl, hsf, hcs⟩)
    clear hcs hsf
    go_enter Tryd.func65, Tryd.ntmps65
    go_wp2_with fail
    go_loopw [1, 5] (fun q i wr => ∃ j : Nat, j ≤ l.length ∧ i = .int .i64 j ∧ q = .int .i64 ((k + 4 * Vs.nodes (l.take j) : Nat) : Int) ∧ Below w.heap.size w wr) (fun _ i _ => l.length - (intOf i).toNat)
    case atStart => exact ⟨0, Nat.zero_le _, rfl, by simp [Vs.nodes], Below.refl _ _⟩
    case round =>
      obtain ⟨j, hj, rfl, rfl, hb⟩ := hrel
      by_cases hlt : j < l.length
      · have hnt := nodes_take_le l j hlt
        rw [V.nodes_eq] at hnt
        have hst := nodes_step l j hlt
        rw [V.nodes_eq] at hst
        have hlr := lies_below HCS.out hb HLT.out
        have hcr : Vs.cells wr b 0 (Vs.mark l k) G := by
          rcases hlr with ⟨h0, _⟩ | ⟨b', G', e1, e2, _, _, h5⟩
          · have := congrArg List.length h0
            rw [Vs.mark_len, List.length_nil] at this
            omega
          · injection e1 with e1
            injection e1 with e1
            subst e1
            injection e2 with _ e2
            subst e2
            exact h5
        obtain ⟨A', cap', Gj, c0, c1, c2, c3, c4, c5⟩ := held_cell hcr hlt
        have HST := Lib.hid hst
        clear hcr hlr hst
        obtain ⟨m, hm⟩ : ∃ m, k + 4 * Vs.nodes (l.take j) = m := ⟨_, rfl⟩
        rw [hm] at c0 c1 c2 c3 c5 ⊢
        have hmb : m + 4 + 4 * Vs.nodes (l[j]).kids ≤ 10000000 := by omega
        have hm0 : 0 < m := by omega
        have HM := Lib.hid hm
        have HC5 := Lib.hid c5
        have hbw := hb.size
        have hcell : ∀ w', Below wr.heap.size wr w' → w'.cell? ⟨b, j * 5 + 3, none⟩ = some (.string (mtext (m + 3))) ∧ w'.cell? ⟨b, j * 5 + 4, none⟩ = some (.slice A' (l[j]).kids.length cap') := fun w' hb' =>
          ⟨(hb'.cell (p := ⟨b, j * 5 + 3, none⟩) (by show b < _; omega)).trans c3, (hb'.cell (p := ⟨b, j * 5 + 4, none⟩) (by show b < _; omega)).trans c4⟩
        have HCL := Lib.hid hcell
        clear hm c5 hcell
        go_wp2_with fail
        go_region_held3 (fun w' => w'.cell? ⟨b, j * 5 + 3, none⟩ = some (.string (mtext (m + 3)))) (first | exact (HCL.out _ hbt2).1 | exact (HCL.out _ ((Below.refl _ _).drew)).1 | exact (HCL.out _ (Below.refl _ _)).1)
          (first | (go_at_call 100; refine (markText (m + 3) wr.drew (by omega) (by omega)).mono ?_; rintro e w1 ⟨rfl, hbt⟩; have hbt2 : Below wr.heap.size wr w1 := (Below.refl _ _).drew.trans hbt))
        clear c0 c1 c2 c3 c4
        have d4 := (HCL.out _ hbt2).2
        have hbw1 := hb.trans (hbt2.mono hb.size)
        go_wp2_with fail
        refine (HC.out j hlt A' cap' (m + 4) w1 Gj (by omega) (by omega) (lies_below HC5.out hbt2 (lies_lt HC5.out))).mono ?_
        rintro e w6 ⟨rfl, hb6⟩
        have hbw6 := hbw1.trans (hb6.mono hbw1.size)
        clear d4
        go_wp2_with fail
        go_roundw
        case rel => exact ⟨j + 1, by omega, by go_num, by rw [HST.out, ← HM.out]; go_num, hbw6⟩
        case measure => simp [intOf]; omega
      · obtain rfl : j = l.length := by omega
        rw [List.take_length] at *
        go_wp2_with fail
        go_ret
        exact ⟨rfl, hb⟩
theorem heldS_any (l : List V) : HeldSaid l := by
  have h : ∀ v : V, HeldSaid v.kids := V.all (fun v hk => held_step v.kids hk)
  exact h (.mk 0 0 0 ⟨#[]⟩ l)
end Go.Proofs.YtlfiaccpihjldaaDoor

/-
  A value of the laws turned into one of the program: the same tree, in new memory, each row in a block of its own.
-/
namespace Go.Proofs.YtlfiaccpihjldaaDoor
open Go.RowKit
set_option linter.unusedVariables false
set_option linter.unusedSimpArgs false

def To2Said (v : V) : Prop := ∀ (A : Option Addr) (cap : Nat) (w : World), v.nodes ≤ 1048577 → Vs.at_ w 0 w.heap.size v.kids A →
    Calls Tryd.prog 11 #[v.agg A cap] w fun e w' => ∃ A' c' F, e = .returned (v.agg A' c') ∧ v.kids.length ≤ c' ∧ Vs.lies w' v.kids A' F ∧ F.Nodup ∧ (∀ c ∈ F, w.heap.size ≤ c) ∧ Below w.heap.size w w'
def To2SSaid (l : List V) : Prop := ∀ (A : Option Addr) (cap : Nat) (w : World), l.length ≤ 1048576 → Vs.nodes l ≤ 1048576 → Vs.at_ w 0 w.heap.size l A →
    Calls Tryd.prog 53 #[.slice A l.length cap] w fun e w' => ∃ A' c' F, e = .returned (.slice A' l.length c') ∧ l.length ≤ c' ∧ Vs.lies w' l A' F ∧ F.Nodup ∧ (∀ c ∈ F, w.heap.size ≤ c) ∧ Below w.heap.size w w'

mutual
theorem V.lies_at {w : World} {lo : Nat} : ∀ (v : V) (A : Option Addr) (F : List Nat), V.lies w v A F → (∀ c ∈ F, lo ≤ c) → V.at_ w lo w.heap.size v A
  | .mk _ _ _ _ ks, A, F, h, hF => by
    simp only [V.lies] at h
    simp only [V.at_]
    rcases h with ⟨rfl, rfl⟩ | ⟨b, G, rfl, rfl, h3, h4, h5⟩
    · simp only [Vs.at_]
    · exact Vs.cells_at_ b 0 ks G h5 (hF b (by simp)) h3 (fun c hc => hF c (by simp [hc]))
theorem Vs.cells_at_ {w : World} {lo : Nat} (b : Nat) : ∀ (off : Nat) (l : List V) (G : List Nat), Vs.cells w b off l G → lo ≤ b → b < w.heap.size → (∀ c ∈ G, lo ≤ c) → Vs.at_ w lo w.heap.size l (some ⟨b, off, none⟩)
  | _, [], G, h, _, _, _ => by simp only [Vs.at_]
  | off, v :: r, G, h, h1, h2, hG => by
    simp only [Vs.cells] at h
    simp only [Vs.at_]
    obtain ⟨A', cap, G1, G2, rfl, k2, k3, k4, k5⟩ := h
    exact ⟨b, off, A', cap, rfl, h1, h2, k2, k3, V.lies_at v A' G1 k4 (fun c hc => hG c (by simp [hc])), Vs.cells_at_ b (off + 5) r G2 k5 h1 h2 (fun c hc => hG c (by simp [hc]))⟩
end
theorem Vs.lies_at {w : World} {lo : Nat} {l : List V} {A : Option Addr} {F : List Nat} (h : Vs.lies w l A F) (hF : ∀ c ∈ F, lo ≤ c) : Vs.at_ w lo w.heap.size l A := by
  have h1 : V.lies w (.mk 0 0 0 ⟨#[]⟩ l) A F := V.lies_kids.2 h
  have h2 := V.lies_at _ A F h1 hF
  simpa only [V.at_] using h2
/-- One value more at the end of a row. -/
theorem Vs.cells_snoc {w : World} {b : Nat} {v : V} {A : Option Addr} {cap : Nat} {Gj : List Nat} (hc : v.kids.length ≤ cap) (hl : V.lies w v A Gj) : ∀ (l : List V) (off : Nat) (G : List Nat), Vs.cells w b off l G → CellsAt w b (off + l.length * 5) v A cap →
    Vs.cells w b off (l ++ [v]) (G ++ Gj)
  | [], off, G, h, h1 => by
    simp only [Vs.cells] at h
    subst h
    simp only [List.nil_append, Vs.cells]
    exact ⟨A, cap, Gj, [], by simp, hc, by simpa using h1, hl, rfl⟩
  | a :: l, off, G, h, h1 => by
    simp only [Vs.cells] at h
    obtain ⟨A', cap', G1, G2, rfl, k2, k3, k4, k5⟩ := h
    simp only [List.cons_append, Vs.cells]
    refine ⟨A', cap', G1, G2 ++ Gj, by simp, k2, k3, k4, Vs.cells_snoc hc hl l (off + 5) G2 k5 ?_⟩
    rw [show off + 5 + l.length * 5 = off + (a :: l).length * 5 by simp; omega]
    exact h1
/-- A row of which the cells are as they were. -/
theorem Vs.cells_front {w w' : World} {b : Nat} : ∀ (l : List V) (off : Nat) (G : List Nat), Vs.cells w b off l G → (∀ q, q < off + l.length * 5 → w'.cell? ⟨b, q, none⟩ = w.cell? ⟨b, q, none⟩) → SameIn G w w' → Vs.cells w' b off l G
  | [], off, G, h, _, _ => by simp only [Vs.cells] at h ⊢; exact h
  | a :: l, off, G, h, h1, h2 => by
    simp only [Vs.cells] at h ⊢
    obtain ⟨A', cap', G1, G2, rfl, k2, k3, k4, k5⟩ := h
    exact ⟨A', cap', G1, G2, rfl, k2, k3.keep fun q hq => h1 _ (by simp; omega), V.lies_same _ _ _ k4 ⟨h2.1, fun c hc => h2.2 c (by simp [hc])⟩,
      Vs.cells_front l (off + 5) G2 k5 (fun q hq => h1 q (by simp; omega)) ⟨h2.1, fun c hc => h2.2 c (by simp [hc])⟩⟩

set_option maxHeartbeats 1000000 in
theorem to2_step (v : V) (hk : To2SSaid v.kids) : To2Said v := by
  intro A cap w hn hat
  rw [V.nodes_eq] at hn
  have hl : v.kids.length ≤ 1048576 := by have := Vs.len_nodes v.kids; omega
  have HK := fun (c : Nat) (w' : World) (hat' : Vs.at_ w' 0 w'.heap.size v.kids A) => hk A c w' hl (by omega) hat'
  have HC := Lib.hid HK
  clear HK hk
  unfold V.agg
  go_enter Tryd.func11, Tryd.ntmps11
  go_wp2_with fail
  refine (HC.out _ _ (Vs.at_more (Nat.le_refl _) (by simp; omega) _ _ (Vs.at_keep (fun p _ hp => by rw [World.cell?_alloc_lt _ _ _ (by simp; omega), World.cell?_alloc_lt _ _ _ (by simp; omega), World.cell?_alloc_lt _ _ _ hp]) _ _ hat))).mono ?_
  rintro e w1 ⟨A', c', F, rfl, hc', hl1, hnd, hF, hb1⟩
  have B2 := (Blk.new ((w.alloc _).alloc _) _ _).below hb1 (by simp)
  have B1 := ((Blk.new (w.alloc _) _ _).alloc _).below hb1 (by simp)
  simp only [World.size_alloc] at B1 B2 hb1 hF
  have c20 : w1.cell? ⟨w.heap.size + 1 + 1, 0, none⟩ = some (.int .i64 v.k) := B2.cell 0
  have c21 : w1.cell? ⟨w.heap.size + 1 + 1, 1, none⟩ = some (.int .i64 v.n) := B2.cell 1
  have c22 : w1.cell? ⟨w.heap.size + 1 + 1, 2, none⟩ = some (.int .i64 v.e) := B2.cell 2
  have c23 : w1.cell? ⟨w.heap.size + 1 + 1, 3, none⟩ = some (.string v.s) := B2.cell 3
  have c24 : w1.cell? ⟨w.heap.size + 1 + 1, 4, none⟩ = some (.slice none 0 0) := B2.cell 4
  have f24 := B2.frozen 4
  have c10 : w1.cell? ⟨w.heap.size + 1, 0, none⟩ = some (.int .i64 0) := B1.cell 0
  have c11 : w1.cell? ⟨w.heap.size + 1, 1, none⟩ = some (.int .i64 0) := B1.cell 1
  have c12 : w1.cell? ⟨w.heap.size + 1, 2, none⟩ = some (.int .i64 0) := B1.cell 2
  have c13 : w1.cell? ⟨w.heap.size + 1, 3, none⟩ = some (.string ⟨#[]⟩) := B1.cell 3
  have c14 : w1.cell? ⟨w.heap.size + 1, 4, none⟩ = some (.slice none 0 0) := B1.cell 4
  have f10 := B1.frozen 0
  have f11 := B1.frozen 1
  have f12 := B1.frozen 2
  have f13 := B1.frozen 3
  have f14 := B1.frozen 4
  clear B1 B2 hat
  have hbw : Below w.heap.size w w1 := ((((Below.refl _ w).alloc (Nat.le_refl _) _).alloc (by simp) _).alloc (by simp; omega) _).trans (hb1.mono (by omega))
  have hs1 : w.heap.size + 1 + 1 + 1 ≤ w1.heap.size := by have := hb1.size; simpa using this
  have HB := Lib.hid hbw
  have HA := Lib.hid hl1
  have HND := Lib.hid hnd
  have HF := Lib.hid hF
  clear hbw hl1 hnd hF hb1 HC
  go_wp2_with fail
  refine bodyPost_ret (v := .agg #[.int .i64 v.k, .int .i64 v.n, .int .i64 v.e, .string v.s, .slice A' v.kids.length c']) (by simp [results, Tryd.results11, go_sem, c20, c21, c22, c23, c10, c11, c12, c13, c14]) rfl ⟨A', c', F, rfl, hc', Vs.lies_same HA.out ⟨by simp, fun c hc => ?_⟩, HND.out, fun c hc => by have := HF.out c hc; omega, ?_⟩
  · have hcn : c ≠ w.heap.size + 1 := by have := HF.out c hc; omega
    rw [Below.heap_setCell _ _ _ _ (by exact hcn), Below.heap_setCell _ _ _ _ (by exact hcn), Below.heap_setCell _ _ _ _ (by exact hcn), Below.heap_setCell _ _ _ _ (by exact hcn), Below.heap_setCell _ _ _ _ (by exact hcn), Below.heap_setCell _ _ _ _ (by intro e; have := HF.out c hc; simp at e; omega)]
  · exact ((((((HB.out.setCell (by simp; try omega) _).setCell (by simp; try omega) _).setCell (by simp; try omega) _).setCell (by simp; try omega) _).setCell (by simp; try omega) _).setCell (by simp; try omega) _)

/-- What the loop has laid: the first j elements. -/
def To2Rel (l : List V) (w : World) (j : Nat) (wr : World) : Prop :=
  (∃ xs, wr.ownsRow w.heap.size 29 5 (.slice (some ⟨w.heap.size, 0, none⟩) l.length l.length) l.length xs) ∧ Below w.heap.size w wr ∧
  ∃ G, Vs.cells wr w.heap.size 0 (l.take j) G ∧ G.Nodup ∧ ∀ c ∈ G, w.heap.size < c

theorem to2_next {l : List V} {w wr w2 : World} {j : Nat} (hlt : j < l.length) (hb : Below w.heap.size w wr)
    (hrow : ∃ G, Vs.cells wr w.heap.size 0 (l.take j) G ∧ G.Nodup ∧ ∀ c ∈ G, w.heap.size < c)
    (hb2 : Below wr.heap.size wr w2) {xs : List Value} (hown : w2.ownsRow w.heap.size 29 5 (.slice (some ⟨w.heap.size, 0, none⟩) l.length l.length) l.length xs)
    {A2 : Option Addr} {c2 : Nat} {F : List Nat} (hl2 : Vs.lies w2 (l[j]).kids A2 F) (hnd : F.Nodup) (hF : ∀ c ∈ F, wr.heap.size ≤ c) (hc : (l[j]).kids.length ≤ c2) {u0 u1 u2 u3 u4 : Value}
    (h0 : w2.cell? ⟨w.heap.size, j * 5, none⟩ = some u0) (h1 : w2.cell? ⟨w.heap.size, j * 5 + 1, none⟩ = some u1) (h2 : w2.cell? ⟨w.heap.size, j * 5 + 2, none⟩ = some u2) (h3 : w2.cell? ⟨w.heap.size, j * 5 + 3, none⟩ = some u3) (h4 : w2.cell? ⟨w.heap.size, j * 5 + 4, none⟩ = some u4) (hg : w.heap.size < wr.heap.size := by assumption) :
    To2Rel l w (j + 1) (put5 w2 w.heap.size (j * 5) l[j] A2 c2) := by
  obtain ⟨G, g1, g2, g3⟩ := hrow
  have hGlt := Vs.cells_lt w.heap.size 0 _ G g1
  have hlen : (l.take j).length = j := by rw [List.length_take]; omega
  have blk : ∀ c, c ≠ w.heap.size → (put5 w2 w.heap.size (j * 5) l[j] A2 c2).heap[c]? = w2.heap[c]? := by
    intro c hc
    unfold put5
    rw [Below.heap_setCell _ _ _ _ (by exact hc), Below.heap_setCell _ _ _ _ (by exact hc), Below.heap_setCell _ _ _ _ (by exact hc), Below.heap_setCell _ _ _ _ (by exact hc), Below.heap_setCell _ _ _ _ (by exact hc)]
  refine ⟨put5_own hown, put5_below (hb.trans (hb2.mono hb.size)) (Nat.le_refl _), G ++ F, ?_, ?_, ?_⟩
  · rw [List.take_succ_eq_append_getElem hlt]
    refine Vs.cells_snoc hc (V.lies_kids.2 (Vs.lies_same hl2 ⟨by rw [put5_size]; exact Nat.le_refl _, fun c hcF => blk c (by have := hF c hcF; omega)⟩)) _ 0 G ?_ ?_
    · refine Vs.cells_front _ 0 G g1 (fun q hq => ?_) ⟨by rw [put5_size]; exact hb2.size, fun c hcG => ?_⟩
      · rw [put5_other (.inr (.inl (by show q < j * 5; rw [hlen] at hq; omega)))]
        exact hb2.cell (p := ⟨w.heap.size, q, none⟩) hg
      · rw [blk c (by have := g3 c hcG; omega)]
        exact hb2.block c (hGlt c hcG)
    · rw [hlen, Nat.zero_add]
      exact put5_at h0 h1 h2 h3 h4
  · refine List.nodup_append.2 ⟨g2, hnd, fun a ha b hb' e => ?_⟩
    subst e
    have := hGlt a ha
    have := hF a hb'
    omega
  · intro c hc'
    rcases List.mem_append.1 hc' with h | h
    · exact g3 c h
    · have := hF c h
      omega

set_option maxHeartbeats 1000000 in
theorem to2S_step (l : List V) (hk : ∀ i (h : i < l.length), To2Said l[i]) : To2SSaid l := by
  intro A cap w hl hn hat
  have HK := fun (i : Nat) (h : i < l.length) (A' : Option Addr) (c : Nat) (w' : World) (hat' : Vs.at_ w' 0 w'.heap.size (l[i]).kids A') => hk i h A' c w' (by have := Vs.nodes_get i h; omega) hat'
  have HC := Lib.hid HK
  clear HK hk
  obtain ⟨i0, hi, hz0, hz1, hz2⟩ := info_parts infoV
  go_enter Tryd.func53, Tryd.ntmps53
  go_wp2_with (at_make; refine wpList_make_full _ rfl _ _ 27 rfl w.heap.size 29 i0 _ 5 Tryd.underlying27 hi hz0 hz1 _ _ _ _ l.length rfl rfl (by omega) (by omega) ?b1 ?b2 ?b3 ?_)
  case b1 => rw [hz2]; omega
  case b2 => unfold maxLen; omega
  case b3 => omega
  intro w1 hown1 hg1
  go_wp2_with fail
  go_loopw [4] (fun i wr => ∃ j : Nat, j ≤ l.length ∧ i = .int .i64 j ∧ To2Rel l w j wr) (fun i _ => l.length - (intOf i).toNat)
  case atStart => exact ⟨0, Nat.zero_le _, rfl, ⟨_, hown1⟩, (Below.refl _ _).grown hg1 (Nat.le_refl _) (fun k h => by cases h), [], by simp [Vs.cells], List.nodup_nil, fun c h => by cases h⟩
  case round =>
    obtain ⟨j, hj, rfl, ⟨xs, hown⟩, hb, hrow⟩ := hrel
    have HR := Lib.hid hrow
    have hgr : w.heap.size < wr.heap.size := (hown.lt _ rfl).2
    clear hrow
    by_cases hlt : j < l.length
    · obtain ⟨b, off, A', cap', rfl, g1, g2, g3, ⟨c0, c1, c2, c3, c4⟩, g5⟩ := Vs.at_get j hlt (Vs.at_below hat hb (Nat.le_refl _))
      go_wp2_with fail
      refine (HC.out j hlt A' cap' _ (Vs.at_more (Nat.le_refl _) hb.size _ _ g5)).mono ?_
      rintro e w2 ⟨A2, c2', F, rfl, hc2, hat2, hnd2, hF2, hb2⟩
      unfold V.agg
      have hown2 := own_below hown hb2
      have hxl := hown2.1
      have cq : ∀ q, q < 5 → ∃ u, w2.cell? ⟨w.heap.size, j * 5 + q, none⟩ = some u := fun q hq => ⟨_, (hown2.cellAt (j * 5 + q) (by omega)).trans (List.getElem?_eq_getElem (by omega))⟩
      obtain ⟨u0, d0⟩ := cq 0 (by omega)
      obtain ⟨u1, d1⟩ := cq 1 (by omega)
      obtain ⟨u2, d2⟩ := cq 2 (by omega)
      obtain ⟨u3, d3⟩ := cq 3 (by omega)
      obtain ⟨u4, d4⟩ := cq 4 (by omega)
      simp only [Nat.add_zero] at d0
      have k0 := hown2.frozenAt (j * 5)
      have k1 := hown2.frozenAt (j * 5 + 1)
      have k2 := hown2.frozenAt (j * 5 + 2)
      have k3 := hown2.frozenAt (j * 5 + 3)
      have k4 := hown2.frozenAt (j * 5 + 4)
      have HO := Lib.hid hown2
      have HA := Lib.hid hat2
      have HB2 := Lib.hid hb2
      have HND2 := Lib.hid hnd2
      have HF2 := Lib.hid hF2
      clear c0 c1 c2 c3 c4 cq hxl hown2 hat2 hb2 hown hnd2 hF2
      go_wp2_with fail
      go_roundw
      case rel => exact ⟨j + 1, by omega, by go_num, to2_next hlt hb HR.out HB2.out HO.out HA.out HND2.out HF2.out hc2 d0 d1 d2 d3 d4⟩
      case measure => simp [intOf]; omega
    · obtain rfl : j = l.length := by omega
      go_wp2_with fail
      go_ret
      obtain ⟨G, g1, g2, g3⟩ := HR.out
      rw [List.take_length] at g1
      by_cases h0 : l = []
      · subst h0
        exact ⟨_, _, [], rfl, Nat.le_refl _, .inl ⟨rfl, rfl⟩, List.nodup_nil, (fun c h => by cases h), hb⟩
      · refine ⟨_, _, w.heap.size :: G, rfl, Nat.le_refl _, .inr ⟨_, G, rfl, rfl, (hown.lt _ rfl).2, soft_own hown, g1⟩, List.nodup_cons.2 ⟨fun h => Nat.lt_irrefl _ (g3 _ h), g2⟩, fun c hc => ?_, hb⟩
        rcases List.mem_cons.1 hc with rfl | hc
        · exact Nat.le_refl _
        · exact Nat.le_of_lt (g3 c hc)

theorem to2_all : ∀ (N : Nat), (∀ l : List V, Vs.nodes l ≤ N → To2SSaid l) := by
  intro N
  induction N with
  | zero =>
    intro l h
    refine to2S_step l fun i hi => ?_
    have h1 := Vs.nodes_get i hi
    have h2 := V.nodes_pos l[i]
    omega
  | succ N ih =>
    intro l h
    refine to2S_step l fun i hi => to2_step _ (ih _ ?_)
    have h1 := Vs.nodes_get i hi
    rw [V.nodes_eq] at h1
    omega
theorem toValue2 (v : V) : To2Said v := to2_step v (to2_all _ _ (Nat.le_refl _))

/-- A row whose block is as it was. -/
theorem own_same {w w' : World} {base e size n : Nat} {v : Value} {xs : List Value} (h : w.ownsRow base e size v n xs) (hb : ∀ g, v.ownBlock = some g → w'.heap[g]? = w.heap[g]?) : w'.ownsRow base e size v n xs := by
  refine ⟨h.1, ?_⟩
  rcases h.2 with h' | ⟨g, c, cur, rfl, h1, h2, h3⟩
  · exact .inl h'
  · exact .inr ⟨g, c, cur, rfl, h1, (hb g rfl).trans h2, h3⟩
theorem own_base {w : World} {base base' e size n : Nat} {v : Value} {xs : List Value} (h : w.ownsRow base e size v n xs) (hb : base' ≤ base) : w.ownsRow base' e size v n xs := by
  refine ⟨h.1, ?_⟩
  rcases h.2 with h' | ⟨g, c, cur, rfl, h1, h2⟩
  · exact .inl h'
  · exact .inr ⟨g, c, cur, rfl, Nat.le_trans hb h1, h2⟩
theorem own_touch {w w' : World} {F : List Nat} {base e size n : Nat} {v : Value} {xs : List Value} (h : w.ownsRow base e size v n xs) (ht : Touch F w w') (hF : ∀ c ∈ F, c < base) : w'.ownsRow base e size v n xs :=
  own_same h fun g hg => ht.block g (h.lt g hg).2 (fun hc => by have := hF g hc; have := (h.lt g hg).1; omega)
theorem Touch.below {F : List Nat} {w w' : World} (h : Touch F w w') {B : Nat} (hB : B ≤ w.heap.size) (hF : ∀ c ∈ F, B ≤ c) : Below B w w' :=
  ⟨h.os, h.tape, h.output, h.size, fun k hk => h.block k (Nat.lt_of_lt_of_le hk hB) (fun hc => by have := hF k hc; omega)⟩
end Go.Proofs.YtlfiaccpihjldaaDoor

/-
  A row of values that grows by appends: its cells, and where the values' own rows lie.
-/
namespace Go.Proofs.YtlfiaccpihjldaaDoor
open Go.RowKit
set_option linter.unusedVariables false
set_option linter.unusedSimpArgs false

/-- A value, where its kids lie, and the room there. -/
abbrev Ent := V × Option Addr × Nat
def Ent.cells (x : Ent) : List Value := [.int .i64 x.1.k, .int .i64 x.1.n, .int .i64 x.1.e, .string x.1.s, .slice x.2.1 x.1.kids.length x.2.2]
def flat (es : List Ent) : List Value := es.flatMap Ent.cells
theorem flat_len (es : List Ent) : (flat es).length = es.length * 5 := by
  induction es with
  | nil => rfl
  | cons a l ih => simp only [flat, List.flatMap_cons, List.length_append, List.length_cons] at *; rw [ih]; simp [Ent.cells]; omega
theorem flat_append (a b : List Ent) : flat (a ++ b) = flat a ++ flat b := by simp [flat]
theorem flat_one (x : Ent) : flat [x] = x.cells := by simp [flat]
theorem flat_ones (es : List Ent) : ∀ u ∈ flat es, u.oneCell' = true := by
  intro u hu
  obtain ⟨x, _, hx⟩ := List.mem_flatMap.1 hu
  simp [Ent.cells] at hx
  rcases hx with rfl | rfl | rfl | rfl | rfl <;> rfl
theorem flat_at (es : List Ent) : ∀ (j q : Nat) (h : j < es.length), q < 5 → (flat es)[j * 5 + q]? = (es[j].cells)[q]? := by
  induction es with
  | nil => intro j q h; simp at h
  | cons a l ih =>
    intro j q h hq
    have e : flat (a :: l) = a.cells ++ flat l := rfl
    have hl : a.cells.length = 5 := rfl
    rw [e]
    cases j with
    | zero => rw [List.getElem?_append_left (by omega)]; simp
    | succ j =>
      rw [List.getElem?_append_right (by omega), show (j + 1) * 5 + q - a.cells.length = j * 5 + q by omega, ih j q (by simpa using h) hq]
      rfl

/-- Each value's kids' rows, in blocks of their own. -/
def kidsLie (w : World) : List Ent → List Nat → Prop
  | [], G => G = []
  | x :: r, G => ∃ G1 G2, G = G1 ++ G2 ∧ x.1.kids.length ≤ x.2.2 ∧ V.lies w x.1 x.2.1 G1 ∧ kidsLie w r G2
theorem kidsLie_lt {w : World} : ∀ (es : List Ent) (G : List Nat), kidsLie w es G → ∀ c ∈ G, c < w.heap.size
  | [], G, h, c, hc => by simp only [kidsLie] at h; subst h; cases hc
  | x :: r, G, h, c, hc => by
    simp only [kidsLie] at h
    obtain ⟨G1, G2, rfl, _, h3, h4⟩ := h
    rcases List.mem_append.1 hc with hc | hc
    · exact V.lies_lt _ _ _ h3 c hc
    · exact kidsLie_lt r G2 h4 c hc
theorem kidsLie_same {w w' : World} : ∀ (es : List Ent) (G : List Nat), kidsLie w es G → SameIn G w w' → kidsLie w' es G
  | [], G, h, _ => by simp only [kidsLie] at h ⊢; exact h
  | x :: r, G, h, hs => by
    simp only [kidsLie] at h ⊢
    obtain ⟨G1, G2, rfl, h2, h3, h4⟩ := h
    exact ⟨G1, G2, rfl, h2, V.lies_same _ _ _ h3 ⟨hs.1, fun c hc => hs.2 c (by simp [hc])⟩, kidsLie_same r G2 h4 ⟨hs.1, fun c hc => hs.2 c (by simp [hc])⟩⟩
theorem kidsLie_append {w : World} : ∀ (a b : List Ent) (G H : List Nat), kidsLie w a G → kidsLie w b H → kidsLie w (a ++ b) (G ++ H)
  | [], b, G, H, h, h' => by simp only [kidsLie] at h; subst h; simpa using h'
  | x :: r, b, G, H, h, h' => by
    simp only [kidsLie] at h
    simp only [List.cons_append, kidsLie]
    obtain ⟨G1, G2, rfl, h2, h3, h4⟩ := h
    exact ⟨G1, G2 ++ H, by simp, h2, h3, kidsLie_append r b G2 H h4 h'⟩
theorem kidsLie_one {w : World} {v : V} {A : Option Addr} {c : Nat} {F : List Nat} (hc : v.kids.length ≤ c) (h : Vs.lies w v.kids A F) : kidsLie w [(v, A, c)] F := by
  simp only [kidsLie]
  exact ⟨F, [], by simp, hc, V.lies_kids.2 h, rfl⟩
theorem kidsLie_cells {w : World} {g : Nat} : ∀ (es : List Ent) (off : Nat) (G : List Nat), (∀ q, q < es.length * 5 → w.cell? ⟨g, off + q, none⟩ = (flat es)[q]?) → kidsLie w es G → Vs.cells w g off (es.map (·.1)) G
  | [], off, G, _, h => by simp only [kidsLie] at h; simpa only [List.map_nil, Vs.cells] using h
  | x :: r, off, G, hc, h => by
    simp only [kidsLie] at h
    simp only [List.map_cons, Vs.cells]
    obtain ⟨G1, G2, rfl, h2, h3, h4⟩ := h
    have e : ∀ q, q < 5 → w.cell? ⟨g, off + q, none⟩ = (x.cells)[q]? := fun q hq => by
      rw [hc q (by simp; omega)]
      have := flat_at (x :: r) 0 q (by simp) hq
      simpa using this
    refine ⟨x.2.1, x.2.2, G1, G2, rfl, h2, ⟨e 0 (by omega), e 1 (by omega), e 2 (by omega), e 3 (by omega), e 4 (by omega)⟩, h3, kidsLie_cells r (off + 5) G2 (fun q hq => ?_) h4⟩
    rw [show off + 5 + q = off + (q + 5) by omega, hc (q + 5) (by simp; omega)]
    have e2 : flat (x :: r) = x.cells ++ flat r := rfl
    rw [e2, List.getElem?_append_right (by show 5 ≤ q + 5; omega)]
    rfl

/-- A row of values of the call's own. -/
structure RowOf (w : World) (base : Nat) (o : Value) (es : List Ent) (G : List Nat) : Prop where
  own : w.ownsRow base 29 5 o es.length (flat es)
  kids : kidsLie w es G
  nodup : G.Nodup
  low : ∀ c ∈ G, base ≤ c
  apart : ∀ g, o.ownBlock = some g → g ∉ G
theorem RowOf.lt {w : World} {base : Nat} {o : Value} {es : List Ent} {G : List Nat} (h : RowOf w base o es G) : ∀ c ∈ G, c < w.heap.size := kidsLie_lt es G h.kids
theorem RowOf.below {w w' : World} {base : Nat} {o : Value} {es : List Ent} {G : List Nat} (h : RowOf w base o es G) {B : Nat} (hB : w.heap.size ≤ B) (hb : Below B w w') : RowOf w' base o es G :=
  ⟨own_below' h.own hB hb, kidsLie_same es G h.kids ⟨hb.size, fun c hc => hb.block c (Nat.lt_of_lt_of_le (h.lt c hc) hB)⟩, h.nodup, h.low, h.apart⟩
theorem RowOf.alloc {w : World} {base : Nat} {o : Value} {es : List Ent} {G : List Nat} (h : RowOf w base o es G) (ob : Obj) : RowOf (w.alloc ob) base o es G :=
  h.below (Nat.le_refl _) ((Below.refl _ w).alloc (Nat.le_refl _) ob)
/-- The row as kids of a value. -/
theorem RowOf.lies {w : World} {base : Nat} {o : Value} {es : List Ent} {G : List Nat} (h : RowOf w base o es G) : ∃ A c F, o = .slice A es.length c ∧ es.length ≤ c ∧ Vs.lies w (es.map (·.1)) A F ∧ F.Nodup ∧ (∀ x ∈ F, base ≤ x) := by
  have hown := h.own
  rcases hown.2 with ⟨rfl, h0⟩ | ⟨g, c, cur, rfl, h1, h2, h3, h4⟩
  · have he : es = [] := List.eq_nil_of_length_eq_zero h0
    subst he
    exact ⟨none, 0, [], rfl, Nat.le_refl _, .inl ⟨rfl, rfl⟩, List.nodup_nil, fun x hx => by cases hx⟩
  · refine ⟨some ⟨g, 0, none⟩, c, g :: G, rfl, by omega, .inr ⟨g, G, rfl, rfl, (hown.lt g rfl).2, soft_own hown, ?_⟩, List.nodup_cons.2 ⟨h.apart g rfl, h.nodup⟩, fun x hx => ?_⟩
    · refine kidsLie_cells es 0 G (fun q hq => ?_) h.kids
      rw [Nat.zero_add]
      exact hown.cellAt q (by omega)
    · rcases List.mem_cons.1 hx with rfl | hx
      · exact h1
      · exact h.low x hx
/-- A value appended. -/
theorem RowOf.push {w w1 w' : World} {base : Nat} {o v' : Value} {es : List Ent} {G : List Nat} (h : RowOf w base o es G) {v : V} {A : Option Addr} {c : Nat} {F : List Nat} (hc : v.kids.length ≤ c) (hl : Vs.lies w v.kids A F)
    (hnd : F.Nodup) (hF : ∀ x ∈ F, base ≤ x) (hFG : ∀ x ∈ F, x ∉ G) (hFo : ∀ g, o.ownBlock = some g → g ∉ F) (h1 : Below w.heap.size w w1)
    (hown' : w'.ownsRow base 29 5 v' (es.length + 1) (flat es ++ Ent.cells (v, A, c))) (hg : w1.grownBy w' o.ownBlock) (hv : v'.ownBlock = o.ownBlock ∨ v'.ownBlock = some w1.heap.size) :
    RowOf w' base v' (es ++ [(v, A, c)]) (G ++ F) := by
  have hlt := h.lt
  have hFl : ∀ x ∈ F, x < w.heap.size := lies_lt hl
  have same : ∀ x, x < w.heap.size → (∀ g, o.ownBlock = some g → x ≠ g) → w'.heap[x]? = w.heap[x]? := fun x hx hn => by
    rw [hg.block x (Nat.lt_of_lt_of_le hx h1.size) (fun e => hn x e.symm rfl), h1.block x hx]
  have hsz : w.heap.size ≤ w'.heap.size := Nat.le_trans h1.size hg.size
  refine ⟨?_, kidsLie_append _ _ _ _ (kidsLie_same es G h.kids ⟨hsz, fun x hx => same x (hlt x hx) (fun g hg' e => h.apart g hg' (e ▸ hx))⟩) (kidsLie_one hc (Vs.lies_same hl ⟨hsz, fun x hx => same x (hFl x hx) (fun g hg' e => hFo g hg' (e ▸ hx))⟩)), ?_, ?_, ?_⟩
  · rw [List.length_append, flat_append, flat_one]; exact hown'
  · exact List.nodup_append.2 ⟨h.nodup, hnd, fun a ha b hb e => hFG b hb (e ▸ ha)⟩
  · intro x hx
    rcases List.mem_append.1 hx with hx | hx
    · exact h.low x hx
    · exact hF x hx
  · intro g hg' hx
    have hgl : g < w.heap.size := by
      rcases List.mem_append.1 hx with hx | hx
      · exact hlt g hx
      · exact hFl g hx
    rcases hv with e | e
    · rw [e] at hg'
      rcases List.mem_append.1 hx with hx | hx
      · exact h.apart g hg' hx
      · exact hFo g hg' hx
    · rw [e] at hg'
      injection hg' with hg'
      have := h1.size
      omega
theorem RowOf.none {w : World} {base : Nat} {o : Value} (h : w.ownsRow base 29 5 o 0 []) : RowOf w base o [] [] :=
  ⟨h, rfl, List.nodup_nil, (fun _ h => by cases h), (fun _ _ h => by cases h)⟩
end Go.Proofs.YtlfiaccpihjldaaDoor

/-
  The program's pairsOf: the pairs of a map in new memory, ten cells each.
-/
namespace Go.Proofs.YtlfiaccpihjldaaDoor
open Go.RowKit
set_option linter.unusedVariables false
set_option linter.unusedSimpArgs false
set_option maxRecDepth 100000

/-- These values, with where their kids lie, are the cells from A on. -/
def EntsAt (w : World) (A : Option Addr) (es : List Ent) : Prop := ∀ j (h : j < es.length), ∃ b off, A = some ⟨b, off, none⟩ ∧ b < w.heap.size ∧ CellsAt w b (off + j * 5) es[j].1 es[j].2.1 es[j].2.2
theorem EntsAt.below {w w' : World} {A : Option Addr} {es : List Ent} (h : EntsAt w A es) (hb : Below w.heap.size w w') : EntsAt w' A es := by
  intro j hj
  obtain ⟨b, off, e, hlt, c0, c1, c2, c3, c4⟩ := h j hj
  have k := fun q => hb.cell (p := ⟨b, q, none⟩) hlt
  exact ⟨b, off, e, Nat.lt_of_lt_of_le hlt hb.size, (k _).trans c0, (k _).trans c1, (k _).trans c2, (k _).trans c3, (k _).trans c4⟩
theorem ents_of_at {w : World} {lo hi : Nat} (hhi : hi ≤ w.heap.size) : ∀ {l : List V} {A : Option Addr}, Vs.at_ w lo hi l A → ∃ es : List Ent, es.map (·.1) = l ∧ EntsAt w A es ∧ ∀ x ∈ es, x.1.kids.length ≤ x.2.2 ∧ Vs.at_ w lo hi x.1.kids x.2.1
  | [], A, _ => ⟨[], rfl, fun j h => absurd h (Nat.not_lt_zero j), fun x h => by cases h⟩
  | v :: r, A, h => by
    simp only [Vs.at_] at h
    obtain ⟨b, off, A', cap, rfl, h1, h2, h3, h4, h5, h6⟩ := h
    obtain ⟨es, he, ha, hk⟩ := ents_of_at hhi h6
    refine ⟨(v, A', cap) :: es, by simp [he], fun j hj => ?_, fun x hx => ?_⟩
    · cases j with
      | zero => exact ⟨b, off, rfl, by omega, by simpa using h4⟩
      | succ j =>
        obtain ⟨b', off', e, hlt, hc⟩ := ha j (by simpa using hj)
        injection e with e
        injection e with e1 e2
        subst e1 e2
        refine ⟨b, off, rfl, hlt, ?_⟩
        rw [show off + 5 + j * 5 = off + (j + 1) * 5 by omega] at hc
        simpa using hc
    · rcases List.mem_cons.1 hx with rfl | hx
      · exact ⟨h3, V.at_kids.1 h5⟩
      · exact hk x hx
theorem infoP : (Tryd.prog.info? 79).map (fun i => (i.zero, i.size, i.bytes)) = some (some (.agg #[.int .i64 0, .int .i64 0, .int .i64 0, .string ⟨#[]⟩, .slice none 0 0, .int .i64 0, .int .i64 0, .int .i64 0, .string ⟨#[]⟩, .slice none 0 0]), 10, 128) := by kernel_rfl
theorem flat_take2 (es : List Ent) (m : Nat) (h : m + 1 < es.length) : flat (es.take (m + 2)) = flat (es.take m) ++ (Ent.cells es[m] ++ Ent.cells es[m + 1]) := by
  rw [show m + 2 = m + 1 + 1 by omega, List.take_succ_eq_append_getElem h, List.take_succ_eq_append_getElem (by omega), flat_append, flat_append, flat_one, flat_one, List.append_assoc]
theorem pair_ones (x y : Ent) : ∀ u ∈ Ent.cells x ++ Ent.cells y, u.oneCell' = true := by
  intro u hu
  rcases List.mem_append.1 hu with h | h
  · exact flat_ones [x] u (by rw [flat_one]; exact h)
  · exact flat_ones [y] u (by rw [flat_one]; exact h)

/-- What the loop has laid; w0 is the world behind the first block. -/
def PrRel (es : List Ent) (w0 : World) (o i : Value) (wr : World) : Prop :=
  ∃ m : Nat, m ≤ es.length ∧ m % 2 = 0 ∧ i = .int .i64 (m : Int) ∧ wr.ownsRow w0.heap.size 79 10 o (m / 2) (flat (es.take m)) ∧ Below w0.heap.size w0 wr

set_option maxHeartbeats 2000000 in
theorem implPairsOf (v : V) (es : List Ent) (A : Option Addr) (cap : Nat) (w : World) (hl : v.kids.length ≤ 1048576) (he : es.map (·.1) = v.kids) (hat : EntsAt w A es) :
    Calls Tryd.prog 91 #[v.agg A cap] w fun e w' => ∃ o, e = .returned o ∧ w'.ownsRow (w.heap.size + 1) 79 10 o (es.length / 2) (flat (es.take (2 * (es.length / 2)))) ∧ Below w.heap.size w w' := by
  have hel : es.length = v.kids.length := by rw [← he, List.length_map]
  obtain ⟨w0, hw0⟩ : ∃ w0, w0 = w.alloc (.cells #[.int .i64 v.k, .int .i64 v.n, .int .i64 v.e, .string v.s, .slice A v.kids.length cap] 29) := ⟨_, rfl⟩
  have B0 : Blk w0 w.heap.size 29 #[.int .i64 v.k, .int .i64 v.n, .int .i64 v.e, .string v.s, .slice A v.kids.length cap] := by rw [hw0]; exact Blk.new w _ _
  have z0 : w0.heap.size = w.heap.size + 1 := by rw [hw0]; simp
  have b0 : Below w.heap.size w w0 := by rw [hw0]; exact (Below.refl _ w).alloc (Nat.le_refl _) _
  have hat0 : EntsAt w0 A es := hat.below b0
  have HA := Lib.hid hat
  have HB := Lib.hid B0
  have HB0 := Lib.hid b0
  clear hat B0 b0 hat0
  unfold V.agg
  rw [← hel] at hl hw0 HB ⊢
  clear he hel
  go_enter Tryd.func91, Tryd.ntmps91
  go_wp2_with fail
  rw [← hw0, ← z0]
  have hwl : w.heap.size < w0.heap.size := by omega
  have HZ := Lib.hid z0
  clear z0 hw0
  go_loopw [3, 4] (fun o i wr => PrRel es w0 o i wr) (fun _ i _ => es.length - (intOf i).toNat)
  case atStart =>
    refine ⟨0, Nat.zero_le _, rfl, rfl, ?_, (Below.refl _ w0).alloc (Nat.le_refl _) _⟩
    have h := own_empty w0 79 10
    simpa [flat] using h
  case round =>
    obtain ⟨m, hm, hme, rfl, hown, hb⟩ := hrel
    have b4 : wr.cell? ⟨w.heap.size, 4, none⟩ = some (.slice A es.length cap) := (HB.out.below hb (by omega)).cell 4
    have hbs := hb.size
    have HO := Lib.hid hown
    clear hown
    by_cases hlt : m + 1 < es.length
    · obtain ⟨b, off, rfl, hbl, c0, c1, c2, c3, c4⟩ := HA.out m (by omega)
      obtain ⟨b', off', e1, hbl', d0, d1, d2, d3, d4⟩ := HA.out (m + 1) hlt
      injection e1 with e1
      injection e1 with e11 e12
      subst e11 e12
      have hcn := cells_new wr.drew (Ent.cells es[m] ++ Ent.cells es[m + 1]).toArray 79
      have HC := Lib.hid hcn
      have hI0 : (0 : Int) ≤ (m : Int) := by omega
      have hI1 : (m : Int) < (es.length : Int) := by omega
      have hI2 : (m : Int) + 1 < (es.length : Int) := by omega
      have hI3 : IntKind.i64.wrap ((m : Int) + 1) = (m : Int) + 1 := by rw [IntKind.wrap_i64]; omega
      have hI5 : (0 : Int) ≤ (m : Int) + 1 := by omega
      have hI4 : ((m : Int) + 1).toNat = m + 1 := by omega
      clear hcn
      have keep0 : ∀ w' : World, Below w0.heap.size w0 w' → w'.cell? ⟨w.heap.size, 4, none⟩ = some (.slice (some ⟨b, off, none⟩) es.length cap) ∧ w'.cell? ⟨b, off + m * 5, none⟩ = some (.int .i64 es[m].1.k) ∧ w'.cell? ⟨b, off + m * 5 + 1, none⟩ = some (.int .i64 es[m].1.n) ∧ w'.cell? ⟨b, off + m * 5 + 2, none⟩ = some (.int .i64 es[m].1.e) ∧ w'.cell? ⟨b, off + m * 5 + 3, none⟩ = some (.string es[m].1.s) ∧ w'.cell? ⟨b, off + m * 5 + 4, none⟩ = some (.slice es[m].2.1 es[m].1.kids.length es[m].2.2) ∧ w'.cell? ⟨b, off + (m + 1) * 5, none⟩ = some (.int .i64 es[m + 1].1.k) ∧ w'.cell? ⟨b, off + (m + 1) * 5 + 1, none⟩ = some (.int .i64 es[m + 1].1.n) ∧ w'.cell? ⟨b, off + (m + 1) * 5 + 2, none⟩ = some (.int .i64 es[m + 1].1.e) ∧ w'.cell? ⟨b, off + (m + 1) * 5 + 3, none⟩ = some (.string es[m + 1].1.s) ∧ w'.cell? ⟨b, off + (m + 1) * 5 + 4, none⟩ = some (.slice es[m + 1].2.1 es[m + 1].1.kids.length es[m + 1].2.2) := by
        intro w' hbw
        have hbw' : Below w.heap.size w w' := HB0.out.trans (hbw.mono (by omega))
        have k := fun q => hbw'.cell (p := ⟨b, q, none⟩) hbl
        have k4 := (HB.out.below hbw (by omega)).cell 4
        rw [k4, k, k, k, k, k, k, k, k, k, k]
        exact ⟨rfl, c0, c1, c2, c3, c4, d0, d1, d2, d3, d4⟩
      have KE := Lib.hid keep0
      obtain ⟨_, c0', c1', c2', c3', c4', d0', d1', d2', d3', d4'⟩ := keep0 wr hb
      clear keep0 c0 c1 c2 c3 c4 d0 d1 d2 d3 d4
      go_wp2_with fail
      go_region_held3 (fun w' => w'.cell? ⟨w.heap.size, 4, none⟩ = some (.slice (some ⟨b, off, none⟩) es.length cap) ∧ w'.cell? ⟨b, off + m * 5, none⟩ = some (.int .i64 es[m].1.k) ∧ w'.cell? ⟨b, off + m * 5 + 1, none⟩ = some (.int .i64 es[m].1.n) ∧ w'.cell? ⟨b, off + m * 5 + 2, none⟩ = some (.int .i64 es[m].1.e) ∧ w'.cell? ⟨b, off + m * 5 + 3, none⟩ = some (.string es[m].1.s) ∧ w'.cell? ⟨b, off + m * 5 + 4, none⟩ = some (.slice es[m].2.1 es[m].1.kids.length es[m].2.2) ∧ w'.cell? ⟨b, off + (m + 1) * 5, none⟩ = some (.int .i64 es[m + 1].1.k) ∧ w'.cell? ⟨b, off + (m + 1) * 5 + 1, none⟩ = some (.int .i64 es[m + 1].1.n) ∧ w'.cell? ⟨b, off + (m + 1) * 5 + 2, none⟩ = some (.int .i64 es[m + 1].1.e) ∧ w'.cell? ⟨b, off + (m + 1) * 5 + 3, none⟩ = some (.string es[m + 1].1.s) ∧ w'.cell? ⟨b, off + (m + 1) * 5 + 4, none⟩ = some (.slice es[m + 1].2.1 es[m + 1].1.kids.length es[m + 1].2.2))
        (first | exact KE.out _ hb' | exact KE.out _ hb.drew | exact KE.out _ hb | exact KE.out _ (hb.alloc hb.size _).drew | exact KE.out _ (hb.drew.alloc hb.size _))
        (first | (refine step_app rfl (.tmp 14) (.tmp 27) 77 rfl w0.heap.size 79 Tryd.underlying77 infoP rfl (by decide) rfl (HO.out.alloc _) (hb.alloc hb.size _).drew (Nat.le_trans hb.size (by simp)) _ 1 1 (Ent.cells es[m] ++ Ent.cells es[m + 1]) rfl rfl HC.out (pair_ones _ _) (by unfold maxLen; omega) (by omega) ?_; intro v' w' hown' hb' hB'))
      all_goals
        have hown2 : w'.ownsRow w0.heap.size 79 10 v' ((m + 2) / 2) (flat (es.take (m + 2))) := by rw [flat_take2 es m hlt, show (m + 2) / 2 = m / 2 + 1 by omega]; exact hown'
        have HO2 := Lib.hid hown2
        clear hown' hown2
        go_wp2_with fail
        go_roundw
        case rel => exact ⟨m + 2, by omega, by omega, by go_num, HO2.out, hb'⟩
        case measure => simp [intOf]; omega
    · have e2 : m = 2 * (es.length / 2) := by omega
      go_wp2_with fail
      go_ret
      have h := HO.out
      rw [e2, show 2 * (es.length / 2) / 2 = es.length / 2 by omega, HZ.out] at h
      exact ⟨_, rfl, h, HB0.out.trans (hb.mono (by omega))⟩
end Go.Proofs.YtlfiaccpihjldaaDoor

/-
  JsonFits of the program.
-/
namespace Go.Proofs.YtlfiaccpihjldaaDoor
open Go.RowKit
set_option linter.unusedVariables false
set_option linter.unusedSimpArgs false
set_option maxRecDepth 100000

def pairCells (x y : Ent) : Array Value := #[.int .i64 x.1.k, .int .i64 x.1.n, .int .i64 x.1.e, .string x.1.s, .slice x.2.1 x.1.kids.length x.2.2, .int .i64 y.1.k, .int .i64 y.1.n, .int .i64 y.1.e, .string y.1.s, .slice y.2.1 y.1.kids.length y.2.2]
/-- One pair of a row of pairs. -/
theorem pair_cell {w : World} {base g c m : Nat} {es : List Ent} (hl : es.length = 2 * m) (h : w.ownsRow base 79 10 (.slice (some ⟨g, 0, none⟩) m c) m (flat es)) (j : Nat) (hj : j < m) :
    (w.cell? ⟨g, j * 10, none⟩ = some (.int .i64 (es[2 * j]'(by omega)).1.k) ∧ w.cell? ⟨g, j * 10 + 1, none⟩ = some (.int .i64 (es[2 * j]'(by omega)).1.n) ∧ w.cell? ⟨g, j * 10 + 2, none⟩ = some (.int .i64 (es[2 * j]'(by omega)).1.e) ∧ w.cell? ⟨g, j * 10 + 3, none⟩ = some (.string (es[2 * j]'(by omega)).1.s) ∧ w.cell? ⟨g, j * 10 + 4, none⟩ = some (.slice (es[2 * j]'(by omega)).2.1 (es[2 * j]'(by omega)).1.kids.length (es[2 * j]'(by omega)).2.2)) ∧
    (w.cell? ⟨g, j * 10 + 5, none⟩ = some (.int .i64 (es[2 * j + 1]'(by omega)).1.k) ∧ w.cell? ⟨g, j * 10 + 6, none⟩ = some (.int .i64 (es[2 * j + 1]'(by omega)).1.n) ∧ w.cell? ⟨g, j * 10 + 7, none⟩ = some (.int .i64 (es[2 * j + 1]'(by omega)).1.e) ∧ w.cell? ⟨g, j * 10 + 8, none⟩ = some (.string (es[2 * j + 1]'(by omega)).1.s) ∧ w.cell? ⟨g, j * 10 + 9, none⟩ = some (.slice (es[2 * j + 1]'(by omega)).2.1 (es[2 * j + 1]'(by omega)).1.kids.length (es[2 * j + 1]'(by omega)).2.2)) := by
  have k1 := fun (q : Nat) (hq : q < 5) => (h.cellAt (j * 10 + q) (by omega)).trans ((show (flat es)[j * 10 + q]? = (flat es)[2 * j * 5 + q]? by rw [show j * 10 = 2 * j * 5 by omega]).trans (flat_at es (2 * j) q (by omega) hq))
  have k2 := fun (q : Nat) (hq : q < 5) => (h.cellAt (j * 10 + (5 + q)) (by omega)).trans ((show (flat es)[j * 10 + (5 + q)]? = (flat es)[(2 * j + 1) * 5 + q]? by rw [show j * 10 + (5 + q) = (2 * j + 1) * 5 + q by omega]).trans (flat_at es (2 * j + 1) q (by omega) hq))
  exact ⟨⟨k1 0 (by omega), k1 1 (by omega), k1 2 (by omega), k1 3 (by omega), k1 4 (by omega)⟩, k2 0 (by omega), k2 1 (by omega), k2 2 (by omega), k2 3 (by omega), k2 4 (by omega)⟩

set_option maxHeartbeats 1000000 in
theorem keyNot (x y : Ent) (w : World) :
    Calls Tryd.prog 92 #[.agg (pairCells x y)] w fun e w' => e = .returned (.bool (x.1.k != 5)) ∧ Below w.heap.size w w' := by
  unfold pairCells
  go_enter Tryd.func92, Tryd.ntmps92
  go_wp2_with fail
  go_ret
  exact ⟨rfl, (Below.refl _ _).alloc (Nat.le_refl _) _⟩
theorem keyNotEnters : ∀ (args : Array Value) (w : World), (callFunc 92 args).run Tryd.prog w = .ok (.enter 92 args) w :=
  enters_of Tryd.func92 (by kernel_rfl) rfl
/-- The first keys are texts. -/
def keysText (es : List Ent) (m : Nat) : Prop := ∀ i (h : 2 * i < es.length), i < m → (es[2 * i]).1.k = 5

set_option maxHeartbeats 2000000 in
theorem implPairs_index (es : List Ent) (m : Nat) (o : Value) (base : Nat) (w : World) (hl : es.length = 2 * m) (hm : m ≤ 1048576) (hown : w.ownsRow base 79 10 o m (flat es)) :
    Calls Tryd.prog 118 #[o, .func (Fn.func 92) #[] #[]] w fun e w' =>
      ∃ r : Int, e = .returned (.int .i64 r) ∧ ((keysText es m ∧ r = -1) ∨ (¬ keysText es m ∧ 0 ≤ r)) ∧ Below w.heap.size w w' := by
  have hE := keyNotEnters
  obtain ⟨A, c, rfl, hA⟩ : ∃ A c, o = .slice A m c ∧ (0 < m → ∃ g, A = some ⟨g, 0, none⟩) := by
    rcases hown.2 with ⟨rfl, rfl⟩ | ⟨g, c, cur, rfl, _⟩
    · exact ⟨none, 0, rfl, fun h => absurd h (by omega)⟩
    · exact ⟨_, _, rfl, fun _ => ⟨g, rfl⟩⟩
  have HO := Lib.hid hown
  clear hown
  go_enter Tryd.func118, Tryd.ntmps118
  go_wp2_with fail
  go_loopw [8] (fun i wr => ∃ j : Nat, j ≤ m ∧ i = .int .i64 j ∧ keysText es j ∧ Below w.heap.size w wr) (fun i _ => m - (intOf i).toNat)
  case atStart => exact ⟨0, Nat.zero_le _, rfl, fun i _ h => by omega, Below.refl _ _⟩
  case round =>
    obtain ⟨j, hj, rfl, hk, hb⟩ := hrel
    have HK := Lib.hid hk
    clear hk
    by_cases hlt : j < m
    · obtain ⟨g, rfl⟩ := hA (by omega)
      obtain ⟨⟨c0, c1, c2, c3, c4⟩, d0, d1, d2, d3, d4⟩ := pair_cell hl (own_below' HO.out (Nat.le_refl _) hb) j hlt
      go_wp2_with fail
      refine (keyNot (es[2 * j]'(by omega)) (es[2 * j + 1]'(by omega)) wr).mono ?_
      rintro e w1 ⟨rfl, hb1⟩
      have hbw := hb.trans (hb1.mono hb.size)
      clear c0 c1 c2 c3 c4 d0 d1 d2 d3 d4
      by_cases h5 : (es[2 * j]'(by omega)).1.k = 5
      · rw [show ((es[2 * j]'(by omega)).1.k != 5) = false by rw [h5]; rfl]
        have HK2 : Hid (keysText es (j + 1)) := Lib.hid (fun i h hi => by
          by_cases e : i = j
          · subst e; exact h5
          · exact HK.out i h (by omega))
        clear h5
        go_wp2_with fail
        go_roundw
        case rel => exact ⟨j + 1, by omega, by go_num, HK2.out, hbw⟩
        case measure => simp [intOf]; omega
      · rw [show ((es[2 * j]'(by omega)).1.k != 5) = true by simpa using h5]
        have HN : Hid (¬ keysText es m) := Lib.hid (fun h => h5 (h j (by omega) hlt))
        clear h5
        go_wp2_with fail
        go_ret
        exact ⟨_, rfl, .inr ⟨HN.out, by omega⟩, hbw⟩
    · obtain rfl : j = m := by omega
      go_wp2_with fail
      go_ret
      exact ⟨_, rfl, .inl ⟨HK.out, rfl⟩, hb⟩

theorem one_frame {w : World} {g : Nat} {tv t : TypeId} {cs : Array Value} {u u' : Value} (hB : Blk w g t #[u]) :
    ∃ w1, w1 = ((w.setCell ⟨g, 0, none⟩ u').alloc (.cells cs tv)) ∧ Blk w1 w.heap.size tv cs ∧ Blk w1 g t #[u'] ∧ Keep (fun _ k => k = g) w w1 := by
  refine ⟨_, rfl, ?_, (hB.set1 u').alloc _, keep_alloc1 (keep_set1 (Keep.refl w) u') _⟩
  have h := Blk.new (w.setCell ⟨g, 0, none⟩ u') tv cs
  simpa using h
theorem keysText_iff {es : List Ent} {l : List V} (he : es.map (·.1) = l) : keysText (es.take (2 * (es.length / 2))) (es.length / 2) ↔ ∀ i (h : 2 * i + 1 < l.length), (l[2 * i]).k = 5 := by
  subst he
  unfold keysText
  simp only [List.length_map, List.getElem_map, List.getElem_take, List.length_take]
  constructor
  · intro h i hi; exact h i (by omega) (by omega)
  · intro h i _ hi; exact h i (by omega)

set_option maxHeartbeats 4000000 in
theorem json_yields (g N : Nat) : Yields 89 #[.pointer (some ⟨g, 0, none⟩)] (fun xs w => Blk w g 4 #[.bool (decide (jAll xs))]) (fun _ k => k = g) N where
  enters := enters_of Tryd.func89 (by kernel_rfl) rfl
  alloc := fun xs w o h => ⟨h.alloc o, fun k hk => ⟨hk, by subst hk; exact h.lt⟩⟩
  step := by
    intro xs x A c w hi hB hat hhi hD hn _
    have hlt := hB.lt
    have hig : hi ≤ g := by
      rcases Nat.lt_or_ge g hi with h | h
      · exact absurd rfl (hD g h)
      · exact h
    have hl : x.kids.length ≤ 1048576 := by have := Vs.len_nodes x.kids; have := V.nodes_eq x; omega
    have HB := Lib.hid hB
    have HA := Lib.hid hat
    have c0 : (w.alloc (.cells #[.int .i64 x.k, .int .i64 x.n, .int .i64 x.e, .string x.s, .slice A x.kids.length c] 29)).cell? ⟨g, 0, none⟩ = some (.bool (decide (jAll xs))) := (hB.alloc _).cell 0
    have f0 : (w.alloc (.cells #[.int .i64 x.k, .int .i64 x.n, .int .i64 x.e, .string x.s, .slice A x.kids.length c] 29)).frozen? ⟨g, 0, none⟩ = false := (hB.alloc _).frozen 0
    have HS := Lib.hid (jAll_snoc xs x)
    have c1 : ∀ b : Bool, ((w.setCell ⟨g, 0, none⟩ (.bool b)).alloc (.cells #[.int .i64 x.k, .int .i64 x.n, .int .i64 x.e, .string x.s, .slice A x.kids.length c] 29)).cell? ⟨g, 0, none⟩ = some (.bool b) := fun b => ((hB.set1 _).alloc _).cell 0
    have f1 : ∀ b : Bool, ((w.setCell ⟨g, 0, none⟩ (.bool b)).alloc (.cells #[.int .i64 x.k, .int .i64 x.n, .int .i64 x.e, .string x.s, .slice A x.kids.length c] 29)).frozen? ⟨g, 0, none⟩ = false := fun b => ((hB.set1 _).alloc _).frozen 0
    clear hB hat hD
    unfold V.agg
    show Calls Tryd.prog 89 #[_, _] w _
    have fin : ∀ (w1 : World) (b : Bool), Blk w1 g 4 #[.bool b] → (b = true ↔ jAll (xs ++ [x])) → Blk w1 g 4 #[.bool (decide (jAll (xs ++ [x])))] := fun w1 b h hb => by
      rw [show decide (jAll (xs ++ [x])) = b by rw [Bool.eq_iff_iff, decide_eq_true_iff]; exact hb.symm]; exact h
    have FIN := Lib.hid fin
    clear fin
    by_cases hj : jAll xs
    · rw [show decide (jAll xs) = true from decide_eq_true hj] at c0 HB
      by_cases h8 : x.k = 8
      · have q6 : (x.k != 6) = true := by rw [h8]; rfl
        have q9 : (x.k != 9) = true := by rw [h8]; rfl
        have q8 : (x.k == 8) = true := by rw [h8]; rfl
        have HJ : Hid (jAll (xs ++ [x]) ↔ ∀ i (h : 2 * i + 1 < x.kids.length), (x.kids[2 * i]).k = 5) := Lib.hid (HS.out.trans ⟨fun h => h.2.2.2 h8, fun h => ⟨hj, by omega, by omega, fun _ => h⟩⟩)
        have HF := Lib.hid (one_frame (w := w) (g := g) (tv := 29) (t := 4) (cs := #[.int .i64 x.k, .int .i64 x.n, .int .i64 x.e, .string x.s, .slice A x.kids.length c]) (u' := .bool true) HB.out)
        clear h8 hj HS
        go_enter Tryd.func89, Tryd.ntmps89
        go_wp2_with fail
        obtain ⟨w1, hw1, Bv, Bg, K1⟩ := HF.out
        have at1 : Vs.at_ w1 0 hi x.kids A := by rw [hw1]; exact Vs.at_alloc (Vs.at_set HA.out (.inr hig)) (by simpa using hhi) _
        rw [← hw1]
        clear hw1 HF c1 f1 c0 f0
        have hs1 := K1.size
        obtain ⟨es, he, hea, _⟩ := ents_of_at (w := w1) (by omega) at1
        have hel : es.length = x.kids.length := by rw [← he, List.length_map]
        have hkt := keysText_iff he
        refine (implPairsOf x es A c w1 hl he hea).mono ?_
        rintro e w2 ⟨o, rfl, hown, hb2⟩
        have HO := Lib.hid hown
        have HKT := Lib.hid (HJ.out.trans hkt.symm)
        have hsm : es.length / 2 ≤ 1048576 := by omega
        have hg2 := (Bg.below hb2 Bg.lt).cell 0
        have HB2 := Lib.hid hb2
        have HK1 := Lib.hid K1
        have HBG := Lib.hid Bg
        clear hown hkt he hea at1 Bv hel hb2 K1 Bg
        go_wp2_with (go_at_call 90; go_in)
        refine (implPairs_index (es.take (2 * (es.length / 2))) (es.length / 2) o (w1.heap.size + 1) w2 (by simp; omega) hsm HO.out).mono ?_
        rintro e w3 ⟨r, rfl, h1, hb3⟩
        have hb13 : Below w1.heap.size w1 w3 := HB2.out.trans (hb3.mono HB2.out.size)
        have Bg3 := HBG.out.below hb13 HBG.out.lt
        have g0 := Bg3.cell 0
        have g1 := Bg3.frozen 0
        have HB3 := Lib.hid Bg3
        have HB13 := Lib.hid hb13
        clear hg2 hb3 hb13 Bg3
        rcases h1 with ⟨hk, rfl⟩ | ⟨hk, h0⟩
        · have HK := Lib.hid (HKT.out.2 hk)
          clear hk
          go_wp2_with fail
          go_end0
          exact ⟨rfl, FIN.out _ true (HB3.out.set1 _) ⟨fun _ => HK.out, fun _ => rfl⟩, keep_set1 (keep_below HK1.out HB13.out) _⟩
        · have HK := Lib.hid (fun h => hk (HKT.out.1 h))
          clear hk
          go_wp2_with fail
          go_end0
          exact ⟨rfl, FIN.out _ false (HB3.out.set1 _) ⟨fun h => (by cases h), fun h => absurd h HK.out⟩, keep_set1 (keep_below HK1.out HB13.out) _⟩
      · have q8 : (x.k == 8) = false := by simpa using h8
        by_cases h6 : x.k = 6
        · have q6 : (x.k != 6) = false := by rw [h6]; rfl
          have HK : Hid (¬ jAll (xs ++ [x])) := Lib.hid (fun h => (HS.out.1 h).2.1 h6)
          clear h6 h8 hj
          go_enter Tryd.func89, Tryd.ntmps89
          go_wp2_with fail
          go_end0
          exact ⟨rfl, FIN.out _ false ((HB.out.set1 _).alloc _) ⟨fun h => (by cases h), fun h => absurd h HK.out⟩, keep_alloc1 (keep_set1 (Keep.refl w) _) _⟩
        · have q6 : (x.k != 6) = true := by simpa using h6
          by_cases h9 : x.k = 9
          · have q9 : (x.k != 9) = false := by rw [h9]; rfl
            have HK : Hid (¬ jAll (xs ++ [x])) := Lib.hid (fun h => (HS.out.1 h).2.2.1 h9)
            clear h6 h8 h9 hj
            go_enter Tryd.func89, Tryd.ntmps89
            go_wp2_with fail
            go_end0
            exact ⟨rfl, FIN.out _ false ((HB.out.set1 _).alloc _) ⟨fun h => (by cases h), fun h => absurd h HK.out⟩, keep_alloc1 (keep_set1 (Keep.refl w) _) _⟩
          · have q9 : (x.k != 9) = true := by simpa using h9
            have HK : Hid (jAll (xs ++ [x])) := Lib.hid (HS.out.2 ⟨hj, h6, h9, fun h => absurd h h8⟩)
            clear h6 h8 h9 hj
            go_enter Tryd.func89, Tryd.ntmps89
            go_wp2_with fail
            go_end0
            exact ⟨rfl, FIN.out _ true ((HB.out.set1 _).alloc _) ⟨fun _ => HK.out, fun _ => rfl⟩, keep_alloc1 (keep_set1 (Keep.refl w) _) _⟩
    · rw [show decide (jAll xs) = false from decide_eq_false hj] at c0 HB
      have HK : Hid (¬ jAll (xs ++ [x])) := Lib.hid (fun h => hj (HS.out.1 h).1)
      have set2 : ∀ (W : World) (u : Value), (W.setCell ⟨g, 0, none⟩ u).setCell ⟨g, 0, none⟩ u = (W.setCell ⟨g, 0, none⟩ u).setCell ⟨g, 0, none⟩ u := fun _ _ => rfl
      clear set2
      by_cases h8 : x.k = 8
      · have q8 : (x.k == 8) = true := by rw [h8]; rfl
        clear h8 hj
        go_enter Tryd.func89, Tryd.ntmps89
        go_wp2_with fail
        go_end0
        exact ⟨rfl, FIN.out _ false (((HB.out.set1 _).set1 _).alloc _) ⟨fun h => (by cases h), fun h => absurd h HK.out⟩, keep_alloc1 (keep_set1 (keep_set1 (Keep.refl w) _) _) _⟩
      · have q8 : (x.k == 8) = false := by simpa using h8
        clear h8 hj
        go_enter Tryd.func89, Tryd.ntmps89
        go_wp2_with fail
        go_end0
        exact ⟨rfl, FIN.out _ false ((HB.out.set1 _).alloc _) ⟨fun h => (by cases h), fun h => absurd h HK.out⟩, keep_alloc1 (keep_set1 (Keep.refl w) _) _⟩

set_option maxHeartbeats 1000000 in
theorem implJson (v : V) (A : Option Addr) (cap : Nat) (w : World) (hn : v.nodes ≤ 1048577) (hat : Vs.at_ w 0 w.heap.size v.kids A) :
    Calls Tryd.prog 57 #[v.agg A cap] w fun e w' => e = .returned (.bool (decide (jAll v.pre))) ∧ Below w.heap.size w w' := by
  have HA := Lib.hid hat
  have HL := Lib.hid (V.pre_len v)
  have HJ : Hid (decide (jAll []) = true) := Lib.hid (decide_eq_true (fun x h => by cases h))
  clear hat
  unfold V.agg
  go_enter Tryd.func57, Tryd.ntmps57
  go_wp2_with fail
  have hB := Blk.new (w.alloc (.cells #[.int .i64 v.k, .int .i64 v.n, .int .i64 v.e, .string v.s, .slice A v.kids.length cap] 29)) 4 #[.bool true]
  refine (walk_any (json_yields (w.heap.size + 1) v.nodes) v A cap [] _ w.heap.size (by rw [HJ.out]; simpa using hB) (Vs.at_alloc (Vs.at_alloc HA.out (Nat.le_refl _) _) (by simp) _) (by simp; omega) (fun k hk => by omega) hn (by simp)).mono ?_
  rintro e w1 ⟨rfl, hi1, k1⟩
  have c1 := hi1.cell 0
  simp only [List.nil_append] at c1
  go_wp2_with fail
  go_ret
  exact ⟨rfl, k1.below (((Below.refl _ w).alloc (Nat.le_refl _) _).alloc (by simp) _) (by simp; omega) (fun k hk => by omega)⟩

set_option maxHeartbeats 1000000 in
theorem implJsonFits (v : V) (A : Option Addr) (cap : Nat) (w : World) (hw : v.weight ≤ 1048576) (hT : Tabs w) (hat : Vs.at_ w 0 w.heap.size v.kids A) :
    Calls Tryd.prog 15 #[v.agg A cap] w fun e w' => e = .returned (.bool (decide (jsonOk v))) ∧ Below w.heap.size w w' := by
  have hnn : v.nodes ≤ 1048577 := by have := V.nodes_weight v; omega
  have HA := Lib.hid hat
  have HT := Lib.hid hT
  clear hat hT
  unfold V.agg
  go_enter Tryd.func15, Tryd.ntmps15
  go_wp2_with fail
  have b0 : Below w.heap.size w (w.alloc (.cells #[.int .i64 v.k, .int .i64 v.n, .int .i64 v.e, .string v.s, .slice A v.kids.length cap] 29)) := (Below.refl _ w).alloc (Nat.le_refl _) _
  refine (implValueOk v A cap _ hw (HT.out.below b0) (Vs.at_more (Nat.le_refl _) b0.size _ _ (Vs.at_below HA.out b0 (Nat.le_refl _)))).mono ?_
  rintro e w1 ⟨rfl, hb1⟩
  obtain ⟨p0, p1, p2, p3, p4⟩ := ((Blk.new w 29 #[.int .i64 v.k, .int .i64 v.n, .int .i64 v.e, .string v.s, .slice A v.kids.length cap]).below hb1 (by simp)).five
  have b1 : Below w.heap.size w w1 := b0.trans (hb1.mono b0.size)
  clear hb1 b0
  by_cases hv : okV v
  · rw [show decide (okV v) = true from decide_eq_true hv]
    have HK : Hid (jAll v.pre ↔ jsonOk v) := Lib.hid ⟨fun h => ⟨hv, h⟩, fun h => h.2⟩
    clear hv
    go_wp2_with fail
    refine (implJson v A cap w1 hnn (Vs.at_more (Nat.le_refl _) b1.size _ _ (Vs.at_below HA.out b1 (Nat.le_refl _)))).mono ?_
    rintro e w2 ⟨rfl, hb2⟩
    go_wp2_with fail
    go_ret
    exact ⟨ret_bool (decide_eq_decide.2 HK.out), b1.trans (hb2.mono b1.size)⟩
  · rw [show decide (okV v) = false from decide_eq_false hv]
    have HK : Hid (¬ jsonOk v) := Lib.hid (fun h => hv h.1)
    clear hv
    go_wp2_with fail
    go_ret
    exact ⟨ret_bool (decide_eq_false HK.out).symm, b1⟩
end Go.Proofs.YtlfiaccpihjldaaDoor

/-
  JsonFits of the reference.
-/
namespace Go.Proofs.YtlfiaccpihjldaaDoor
open Go.RowKit
set_option linter.unusedVariables false
set_option linter.unusedSimpArgs false
set_option maxRecDepth 100000

def textTo (v : V) (j : Nat) : Prop := ∀ i (h : i < v.kids.length), i < j → (v.k = 8 → i % 2 = 0 → (v.kids[i]).k = 5) ∧ V.l04 v.kids[i]
theorem textTo_all (v : V) : textTo v v.kids.length ↔ V.l04 v := by
  rw [V.l04_eq, Vs.l04_iff]
  unfold textTo textKeys
  exact ⟨fun h => ⟨fun h8 i hi he => (h i hi hi).1 h8 he, fun i hi => (h i hi hi).2⟩, fun h i hi _ => ⟨fun h8 he => h.1 h8 i hi he, h.2 i hi⟩⟩
def SpecL04Said (v : V) : Prop := ∀ (A : Option Addr) (cap : Nat) (w : World), v.nodes ≤ 1048577 → Vs.at_ w 0 w.heap.size v.kids A →
    Calls Tryd.prog 56 #[v.agg A cap] w fun e w' => e = .returned (.bool (decide (V.l04 v))) ∧ Below w.heap.size w w'

set_option maxHeartbeats 2000000 in
theorem specL04_step (v : V) (hk : ∀ i (h : i < v.kids.length), SpecL04Said v.kids[i]) : SpecL04Said v := by
  intro A cap w hn hat
  rw [V.nodes_eq] at hn
  have hl : v.kids.length ≤ 1048576 := by have := Vs.len_nodes v.kids; omega
  have HK := fun (i : Nat) (h : i < v.kids.length) (A' : Option Addr) (c : Nat) (w' : World) (h1 : Vs.at_ w' 0 w'.heap.size (v.kids[i]).kids A') => hk i h A' c w' (by have := Vs.nodes_get i h; omega) h1
  have HC := Lib.hid HK
  have HA := Lib.hid hat
  have HE := Lib.hid (textTo_all v)
  clear HK hk hat
  unfold V.agg
  go_enter Tryd.func56, Tryd.ntmps56
  go_wp2_with fail
  go_loopw [3] (fun i wr => ∃ j : Nat, j ≤ v.kids.length ∧ i = .int .i64 j ∧ textTo v j ∧ Blk wr w.heap.size 29 #[.int .i64 v.k, .int .i64 v.n, .int .i64 v.e, .string v.s, .slice A v.kids.length cap] ∧ Below w.heap.size w wr) (fun i _ => v.kids.length - (intOf i).toNat)
  case atStart => exact ⟨0, Nat.zero_le _, rfl, fun i _ h => by omega, Blk.new _ _ _, (Below.refl _ _).alloc (Nat.le_refl _) _⟩
  case round =>
    obtain ⟨j, hj, rfl, ht, B, hb⟩ := hrel
    have HT := Lib.hid ht
    have b0 : wr.cell? ⟨w.heap.size, 0, none⟩ = some (.int .i64 v.k) := B.cell 0
    have b4 : wr.cell? ⟨w.heap.size, 4, none⟩ = some (.slice A v.kids.length cap) := B.cell 4
    clear ht
    by_cases hlt : j < v.kids.length
    · obtain ⟨b, off, A', cap', rfl, g1, g2, g3, ⟨c0, c1, c2, c3, c4⟩, g5⟩ := Vs.at_get j hlt (Vs.at_below HA.out hb (Nat.le_refl _))
      have HCJ := Lib.hid (HC.out j hlt A' cap' wr (Vs.at_more (Nat.le_refl _) hb.size _ _ g5))
      have next : ∀ (hkey : v.k = 8 → j % 2 = 0 → (v.kids[j]).k = 5), V.l04 v.kids[j] → textTo v (j + 1) := fun hkey hv i hi hij => by
        by_cases e : i = j
        · subst e; exact ⟨hkey, hv⟩
        · exact HT.out i hi (by omega)
      have stop1 : ¬ V.l04 v.kids[j] → ¬ V.l04 v := fun h hv => h (HE.out.2 hv j hlt hlt).2
      have stop2 : v.k = 8 → j % 2 = 0 → (v.kids[j]).k ≠ 5 → ¬ V.l04 v := fun h8 he h5 hv => h5 ((HE.out.2 hv j hlt hlt).1 h8 he)
      have HNX := Lib.hid next
      have HS1 := Lib.hid stop1
      clear next stop1 g5
      have cases3 : ((v.k == 8) = false ∧ ∀ h : v.k = 8, False) ∨ ((v.k == 8) = true ∧ ((j : Int) % 2 == 0) = false ∧ ∀ h : j % 2 = 0, False) ∨ ((v.k == 8) = true ∧ ((j : Int) % 2 == 0) = true ∧ ((v.kids[j]).k != 5) = false ∧ (v.kids[j]).k = 5) ∨ ((v.k == 8) = true ∧ ((j : Int) % 2 == 0) = true ∧ ((v.kids[j]).k != 5) = true ∧ ¬ V.l04 v) := by
        by_cases h8 : v.k = 8
        · by_cases he : j % 2 = 0
          · by_cases h5 : (v.kids[j]).k = 5
            · exact .inr (.inr (.inl ⟨by rw [h8]; rfl, by rw [beq_iff_eq]; omega, by rw [h5]; rfl, h5⟩))
            · exact .inr (.inr (.inr ⟨by rw [h8]; rfl, by rw [beq_iff_eq]; omega, by simpa using h5, stop2 h8 he h5⟩))
          · exact .inr (.inl ⟨by rw [h8]; rfl, by rw [beq_eq_false_iff_ne]; omega, fun h => he h⟩)
        · exact .inl ⟨by simpa using h8, fun h => h8 h⟩
      clear stop2
      rcases cases3 with ⟨q8, hx⟩ | ⟨q8, q2, hx⟩ | ⟨q8, q2, q5, hx⟩ | ⟨q8, q2, q5, hx⟩
      iterate 2
        have HKEY : Hid (v.k = 8 → j % 2 = 0 → (v.kids[j]).k = 5) := Lib.hid (by first | (intro h; exact absurd h hx) | (intro _ h; exact absurd h hx) | (intro _ _; exact hx))
        clear hx
        go_wp2_with fail
        refine HCJ.out.mono ?_
        rintro e w1 ⟨rfl, hb1⟩
        have hbw : Below w.heap.size w w1 := hb.trans (hb1.mono hb.size)
        have B' := B.below hb1 B.lt
        clear c0 c1 c2 c3 c4 b0 b4
        by_cases hv : V.l04 v.kids[j]
        · rw [show decide (V.l04 v.kids[j]) = true from decide_eq_true hv]
          have HN := Lib.hid (HNX.out HKEY.out hv)
          clear hv
          go_wp2_with fail
          go_roundw
          case rel => exact ⟨j + 1, by omega, by go_num, HN.out, B', hbw⟩
          case measure => simp [intOf]; omega
        · rw [show decide (V.l04 v.kids[j]) = false from decide_eq_false hv]
          have HN := Lib.hid (HS1.out hv)
          clear hv
          go_wp2_with fail
          go_ret
          exact ⟨ret_bool (decide_eq_false HN.out).symm, hbw⟩
      focus
        have HKEY : Hid (v.k = 8 → j % 2 = 0 → (v.kids[j]).k = 5) := Lib.hid (by first | (intro h; exact absurd h hx) | (intro _ h; exact absurd h hx) | (intro _ _; exact hx))
        have HCJ5 := HCJ.out
        unfold V.agg at HCJ5
        rw [hx] at HCJ5
        have HC5 := Lib.hid HCJ5
        clear hx HCJ5
        go_wp2_with fail
        refine HC5.out.mono ?_
        rintro e w1 ⟨rfl, hb1⟩
        have hbw : Below w.heap.size w w1 := hb.trans (hb1.mono hb.size)
        have B' := B.below hb1 B.lt
        clear c0 c1 c2 c3 c4 b0 b4
        by_cases hv : V.l04 v.kids[j]
        · rw [show decide (V.l04 v.kids[j]) = true from decide_eq_true hv]
          have HN := Lib.hid (HNX.out HKEY.out hv)
          clear hv
          go_wp2_with fail
          go_roundw
          case rel => exact ⟨j + 1, by omega, by go_num, HN.out, B', hbw⟩
          case measure => simp [intOf]; omega
        · rw [show decide (V.l04 v.kids[j]) = false from decide_eq_false hv]
          have HN := Lib.hid (HS1.out hv)
          clear hv
          go_wp2_with fail
          go_ret
          exact ⟨ret_bool (decide_eq_false HN.out).symm, hbw⟩
      have HN := Lib.hid hx
      clear hx
      go_wp2_with fail
      go_ret
      exact ⟨ret_bool (decide_eq_false HN.out).symm, hb⟩
    · obtain rfl : j = v.kids.length := by omega
      have HY := Lib.hid (HE.out.1 HT.out)
      go_wp2_with fail
      go_ret
      exact ⟨ret_bool (decide_eq_true HY.out).symm, hb⟩
theorem specL04 : ∀ v, SpecL04Said v := V.all specL04_step

set_option maxHeartbeats 2000000 in
theorem specJsonFits (v : V) (A : Option Addr) (cap : Nat) (w : World) (hw : v.weight ≤ 1048576) (hat : Vs.at_ w 0 w.heap.size v.kids A) :
    Calls Tryd.prog 14 #[v.agg A cap] w fun e w' => e = .returned (.bool (decide (jsonOk v))) ∧ Below w.heap.size w w' := by
  have hnn : v.nodes ≤ 1048577 := by have := V.nodes_weight v; omega
  have HA := Lib.hid hat
  have HJ := Lib.hid (jsonOk_iff v)
  clear hat
  unfold V.agg
  go_enter Tryd.func14, Tryd.ntmps14
  go_wp2_with fail
  have b0 : Below w.heap.size w (w.alloc (.cells #[.int .i64 v.k, .int .i64 v.n, .int .i64 v.e, .string v.s, .slice A v.kids.length cap] 29)) := (Below.refl _ w).alloc (Nat.le_refl _) _
  have B0 := Blk.new w 29 #[.int .i64 v.k, .int .i64 v.n, .int .i64 v.e, .string v.s, .slice A v.kids.length cap]
  refine (specValueOk v A cap _ hw (Vs.at_more (Nat.le_refl _) b0.size _ _ (Vs.at_below HA.out b0 (Nat.le_refl _)))).mono ?_
  rintro e w1 ⟨rfl, hb1⟩
  have B1 := B0.below hb1 (by simp)
  obtain ⟨p0, p1, p2, p3, p4⟩ := B1.five
  have b1 : Below w.heap.size w w1 := b0.trans (hb1.mono b0.size)
  clear hb1 b0 B0
  by_cases hv : okV v
  · rw [show decide (okV v) = true from decide_eq_true hv]
    have HV := Lib.hid hv
    clear hv
    go_wp2_with fail
    refine (specCount v 6 A cap w1 hnn (Vs.at_more (Nat.le_refl _) b1.size _ _ (Vs.at_below HA.out b1 (Nat.le_refl _)))).mono ?_
    rintro e w2 ⟨rfl, hb2⟩
    have B2 := B1.below hb2 B1.lt
    clear p0 p1 p2 p3 p4
    obtain ⟨p0, p1, p2, p3, p4⟩ := B2.five
    have b2 : Below w.heap.size w w2 := b1.trans (hb2.mono b1.size)
    clear hb2 b1 B1
    by_cases h6 : ofKind 6 v.pre = 0
    · have q6 : ((ofKind 6 v.pre : Int) == 0) = true := by rw [beq_iff_eq]; omega
      have H6 := Lib.hid h6
      rw [h6]
      clear h6 q6
      go_wp2_with fail
      refine (specCount v 9 A cap w2 hnn (Vs.at_more (Nat.le_refl _) b2.size _ _ (Vs.at_below HA.out b2 (Nat.le_refl _)))).mono ?_
      rintro e w3 ⟨rfl, hb3⟩
      have B3 := B2.below hb3 B2.lt
      clear p0 p1 p2 p3 p4
      obtain ⟨p0, p1, p2, p3, p4⟩ := B3.five
      have b3 : Below w.heap.size w w3 := b2.trans (hb3.mono b2.size)
      clear hb3 b2 B2
      by_cases h9 : ofKind 9 v.pre = 0
      · have H9 := Lib.hid h9
        rw [h9]
        clear h9
        go_wp2_with fail
        refine (specL04 v A cap w3 hnn (Vs.at_more (Nat.le_refl _) b3.size _ _ (Vs.at_below HA.out b3 (Nat.le_refl _)))).mono ?_
        rintro e w4 ⟨rfl, hb4⟩
        go_wp2_with fail
        go_ret
        exact ⟨ret_bool (decide_eq_decide.2 ⟨fun h => HJ.out.2 ⟨HV.out, H6.out, H9.out, h⟩, fun h => (HJ.out.1 h).2.2.2⟩), b3.trans (hb4.mono b3.size)⟩
      · have q9 : ((ofKind 9 v.pre : Int) == 0) = false := by rw [beq_eq_false_iff_ne]; omega
        have HN : Hid (¬ jsonOk v) := Lib.hid (fun h => h9 (HJ.out.1 h).2.2.1)
        clear h9
        go_wp2_with fail
        go_ret
        exact ⟨ret_bool (decide_eq_false HN.out).symm, b3⟩
    · have q6 : ((ofKind 6 v.pre : Int) == 0) = false := by rw [beq_eq_false_iff_ne]; omega
      have HN : Hid (¬ jsonOk v) := Lib.hid (fun h => h6 (HJ.out.1 h).2.1)
      clear h6
      go_wp2_with fail
      go_ret
      exact ⟨ret_bool (decide_eq_false HN.out).symm, b2⟩
  · rw [show decide (okV v) = false from decide_eq_false hv]
    have HN : Hid (¬ jsonOk v) := Lib.hid (fun h => hv h.1)
    clear hv
    go_wp2_with fail
    go_ret
    exact ⟨ret_bool (decide_eq_false HN.out).symm, b1⟩
end Go.Proofs.YtlfiaccpihjldaaDoor

/-
  FnExactJsonFits returns true for every value that can be read; it reads as it did; no conditions.
-/
namespace Go.Proofs.YtlfiaccpihjldaaDoor.fnExactJsonFits
open Go.ChangeShapes Go.WideShapes Go.ChangeAt Go.RowKit
open Go.ChangeMaps (open_string shut_string)
set_option linter.unusedVariables false

set_option maxHeartbeats 2000000 in
theorem walk (t0 : V) (A0 : Option Addr) (c0 : Nat) (f0 : t0.fits) (w : World) (h0 : Vs.at_ w 0 w.heap.size t0.kids A0) (hT : Tabs w) :
    Calls Tryd.prog 4 #[t0.agg A0 c0] w fun e w' => e = .returned (.bool true) ∧ Below w.heap.size w w' := by
  have H0 := Lib.hid h0
  clear h0
  have HT0 := Lib.hid hT
  clear hT
  by_cases hwt : t0.weight ≤ 1048576
  · have e1 : szR 1048576 t0.weight = 1048576 - t0.weight := by rw [szR, if_pos (by omega)]
    have hn : t0.nodes ≤ 1048577 := by have := V.nodes_weight t0; omega
    have HE := Lib.hid e1
    have cS := fun A c W h1 => specJsonFits t0 A c W hwt h1
    have cI := fun A c W (hb : Below w.heap.size w W) h1 => implJsonFits t0 A c W hwt (HT0.out.below hb) h1
    obtain ⟨rr, hrr⟩ : ∃ rr, decide (jsonOk t0) = rr := ⟨_, rfl⟩
    rw [hrr] at cS cI
    clear hrr
    have hbn : (rr != rr) = false := by cases rr <;> rfl
    have hbe : (rr == rr) = true := by cases rr <;> rfl
    have HCS := Lib.hid cS
    have HCI := Lib.hid cI
    clear cS cI
    clear e1
    unfold V.agg
    go_enter Tryd.func4, Tryd.ntmps4
    go_wp2_with fail
    refine (szValue_any t0 A0 c0 1048576 _ (by omega) (by omega) f0 (Vs.at_more (Nat.le_refl _) (by simp) _ _ (Vs.at_alloc H0.out (Nat.le_refl _) _))).mono ?_
    rintro e w1 ⟨rfl, hb1⟩
    rw [HE.out]
    have Bv := (Blk.new w _ _).below hb1 (by simp)
    have b1 : Below w.heap.size w w1 := ((Below.refl _ w).alloc (Nat.le_refl _) _).trans (hb1.mono (by simp))
    obtain ⟨p0, p1, p2, p3, p4⟩ := Bv.five
    clear hb1
    go_wp2_with fail
    refine (toValue_any t0 A0 c0 _ hn (Vs.at_more (Nat.le_refl _) b1.size _ _ (Vs.at_below H0.out b1 (Nat.le_refl _)))).mono ?_
    rintro e w2 ⟨A1, c1, rfl, hc1, at1, hb2⟩
    have Bv2 := Bv.below hb2 Bv.lt
    have b2 := b1.trans (hb2.mono b1.size)
    have hz2 : w1.heap.size ≤ w2.heap.size := hb2.size
    clear p0 p1 p2 p3 p4 hb2 Bv b1
    unfold V.agg
    go_wp2_with fail
    refine (HCS.out A1 c1 _ (Vs.at_more (Nat.zero_le _) (Nat.le_refl _) _ _ at1)).mono ?_
    rintro e w3 ⟨rfl, hb3⟩
    have Bv3 := Bv2.below hb3 Bv2.lt
    have b3 := b2.trans (hb3.mono b2.size)
    obtain ⟨p0, p1, p2, p3, p4⟩ := Bv3.five
    clear hb3 Bv2 b2 at1
    go_wp2_with fail
    refine (toValue_any t0 A0 c0 _ hn (Vs.at_more (Nat.le_refl _) b3.size _ _ (Vs.at_below H0.out b3 (Nat.le_refl _)))).mono ?_
    rintro e w4 ⟨A2, c2, rfl, hc2, at2, hb4⟩
    have Bv4 := Bv3.below hb4 Bv3.lt
    have b4 := b3.trans (hb4.mono b3.size)
    clear p0 p1 p2 p3 p4 hb4 Bv3 b3
    unfold V.agg
    go_wp2_with fail
    have Bx := Blk.new w4 29 #[.int .i64 t0.k, .int .i64 t0.n, .int .i64 t0.e, .string t0.s, .slice A2 t0.kids.length c2]
    have Bv5 := Bv4.alloc (.cells #[.int .i64 t0.k, .int .i64 t0.n, .int .i64 t0.e, .string t0.s, .slice A2 t0.kids.length c2] 29)
    have b5 := b4.alloc b4.size (.cells #[.int .i64 t0.k, .int .i64 t0.n, .int .i64 t0.e, .string t0.s, .slice A2 t0.kids.length c2] 29)
    have at5 := Vs.at_more (Nat.zero_le _) (Nat.le_refl _) _ _ (Vs.at_alloc at2 (Nat.le_refl _) (.cells #[.int .i64 t0.k, .int .i64 t0.n, .int .i64 t0.e, .string t0.s, .slice A2 t0.kids.length c2] 29))
    have hz5 : w4.heap.size < (w4.alloc (.cells #[.int .i64 t0.k, .int .i64 t0.n, .int .i64 t0.e, .string t0.s, .slice A2 t0.kids.length c2] 29)).heap.size := by simp
    refine (HCI.out A2 c2 _ b5 (Vs.at_more (Nat.le_refl _) (by simp) _ _ at5)).mono ?_
    rintro e w6 ⟨rfl, hb6⟩
    have Bx6 := Bx.below hb6 Bx.lt
    have Bv6 := Bv5.below hb6 Bv5.lt
    have b6 := b5.trans (hb6.mono b5.size)
    have at6 := Vs.at_below at5 hb6 (Nat.le_of_lt hz5)
    have hz6 : w4.heap.size < w6.heap.size := Nat.lt_of_lt_of_le hz5 hb6.size
    clear hb6 Bx Bv5 b5 at5 hz5 at2 Bv4 b4
    go_wp2_with fail
    obtain ⟨p0, p1, p2, p3, p4⟩ := Bv6.five
    obtain ⟨q0, q1, q2, q3, q4⟩ := Bx6.five
    go_region_with (first
      | (go_at_call 11; refine (toValue_any t0 A0 c0 w6.drew hn (Vs.at_more (Nat.le_refl _) b6.size _ _ (Vs.at_drew (Vs.at_below H0.out b6 (Nat.le_refl _))))).mono ?_; rintro e w7 ⟨A3, c3, rfl, hc3, at3, hb7⟩; have Bx7 := (Blk.drew Bx6).below hb7 (Blk.drew Bx6).lt; obtain ⟨r0, r1, r2, r3, r4⟩ := Bx7.five; have at7 := Vs.at_below (Vs.at_drew at6) hb7 (Nat.le_of_lt hz6); have b7 := b6.drew.trans (hb7.mono b6.size); unfold V.agg)
      | (go_at_call 13; refine (eqValue_any t0 A2 A3 c2 c3 w7 hn (Vs.at_more (Nat.le_refl _) (Nat.le_trans (Nat.le_of_lt hz6) hb7.size) _ _ at7) (Vs.at_more (Nat.zero_le _) (Nat.le_refl _) _ _ at3)).mono ?_; rintro e w8 ⟨rfl, hb8⟩; have b8 := b7.trans (hb8.mono b7.size)))
    all_goals go_wp2_with fail
    all_goals go_ret
    all_goals exact ⟨rfl, b8⟩
  · have e1 : szR 1048576 t0.weight = -1 := by rw [szR, if_neg (by omega)]
    have HE := Lib.hid e1
    clear e1
    unfold V.agg
    go_enter Tryd.func4, Tryd.ntmps4
    go_wp2_with fail
    refine (szValue_any t0 A0 c0 1048576 _ (by omega) (by omega) f0 (Vs.at_more (Nat.le_refl _) (by simp) _ _ (Vs.at_alloc H0.out (Nat.le_refl _) _))).mono ?_
    rintro e w1 ⟨rfl, hb1⟩
    rw [HE.out]
    go_wp2_with fail
    go_ret
    exact ⟨rfl, ((Below.refl _ w).alloc (Nat.le_refl _) _).trans (hb1.mono (by simp))⟩

set_option maxRecDepth 100000 in
theorem lifted (os : Os) (started : os.Started) (H : Type) (enc : TypeId × Value → H) :
    ReturnsInHanded {} Tryd.checked os 4 .any (fun w args => (Rows.fnExactJsonFitsSpec.pre enc Tryd.prog Tryd.f4 [] false w args ∧ laidMetH Tryd.prog Rows.fnExactJsonFitsRow.laid w) ∧ sizedMet enc Tryd.prog Tryd.f4 (OpenSpec.ofChange Rows.fnExactJsonFitsSpec) false w args)
      (Rows.fnExactJsonFitsSpec.post enc Tryd.prog Tryd.f4 false true false false) := by
  refine returnsInHanded_of_change_and (C := Tryd.checked) (X := fun w _ => laidMetH Tryd.prog Rows.fnExactJsonFitsRow.laid w) (fun _ _ _ hh h => h.of_heap hh) own started (by kernel_rfl) Tryd.func4
    (ChangeSpec.witness_shaped (enc := enc) (C := Tryd.checked) (os := os) (X := fun w _ => laidMetH Tryd.prog Rows.fnExactJsonFitsRow.laid w) false (World.laidAll Tryd.prog os Rows.fnExactJsonFitsRow.laid) #[.agg #[.int .i64 0, .int .i64 0, .int .i64 0, .string ByteArray.empty, .slice none 0 0]] 8 (World.laidAll_os _ _ _)
      (World.shaped_of_ZipB (by kernel_rfl) (by kernel_rfl)) (by kernel_rfl) (by kernel_rfl) (by kernel_rfl)
      (by rw [MakeChecks.laidMetH_plain _ _ _ (by kernel_rfl)]; exact laidMet_laidAll _ (by kernel_rfl) (by kernel_rfl))) ?_
  intro W base args ds gs before hval0 hW _ _ hL _
  rw [MakeChecks.laidMetH_plain _ _ _ (by kernel_rfl)] at hL
  have hT : Tabs W := tabs_of_laid hL (.head _) (.tail _ (.head _))
  have hval : ∀ (j : Nat) t v, Tryd.f4.params[j]? = some t → args[j]? = some v → Value.okWide Tryd.prog W .any base t v := hval0
  have hW' := hW
  obtain ⟨p, q, hA0, hV, rfl, hfz, hnd⟩ := hW
  have hA : DataW.TrodAll enc Tryd.prog W 0 (fun _ => true) true Tryd.f4.params.toList args.toList ds p := hA0
  rw [Tryd.params4] at hA hval
  obtain ⟨v0, vs0, d0, ds0, p0, q0, hargs, rfl, rfl, h0, r0⟩ := trodAll_cons hA
  obtain ⟨rfl, rfl, rfl⟩ := trodAll_nil r0
  obtain rfl : args = #[v0] := by cases args; simp_all
  obtain ⟨rfl, rfl⟩ := trodVars_none hV
  have k0 := h0
  have lt0 : ∀ x ∈ p0, x.block < W.heap.size := by obtain ⟨m, hm⟩ := k0; exact DataW.trod_lt m _ _ _ hm
  obtain ⟨t0, A0, c0, rfl, f0, at0⟩ := open_value (hval 0 24 v0 rfl rfl) h0
  clear hA0 hval0
  refine (walk t0 A0 c0 f0 W at0 hT).mono fun e W' ⟨he, bel⟩ => ?_
  subst he
  exact ⟨_, rfl, _, _, _, [], _, [], hW', trodAll_mk1 (shut_bool Tryd.underlying4 _), (trodAll_cons_mk (Below.trod laidOut (by kernel_rfl) (of_decide_eq_true (by kernel_rfl)) k0 bel lt0) trodAll_mk0), rfl, bel.frame _, fun h => by cases h⟩

theorem over : Rows.fnExactJsonFitsRow.holds Tryd.pinned (OpenSpec.ofChange Rows.fnExactJsonFitsSpec) :=
  OpenClaim.holds_of_wide 4 Tryd.f4 rfl rfl rfl rfl rfl rfl rfl ⟨rfl, rfl, rfl, rfl, rfl⟩ rfl rfl rfl rfl rfl (by kernel_rfl) Tryd.func4 (by kernel_rfl)
    (of_decide_eq_true (by kernel_rfl)) (by unfold Func.isWrapper; first | (rw [if_pos (by decide +kernel)]; kernel_rfl) | (rw [if_neg (by decide +kernel)]; exact ⟨rfl, rfl⟩))
    (fun os started H enc _ => lifted os started H enc)

theorem proved : Rows.FnExactJsonFitsCardSaid :=
  Claim7.holds_tied_plain_at .later [] _ _ _ _ over (fun _ h => by cases h) (by kernel_rfl) (fun _ h => by cases h) fnExactJsonFits_row_tie rfl ⟨rfl, rfl⟩ (by kernel_rfl) rfl
    (fun f fn hf hfn => by
      obtain rfl : f = 4 := Option.some.inj ((show Tryd.prog.funcNamed "loop.example/g00421/laws.FnExactJsonFits" = some 4 by kernel_rfl).symm.trans hf) |>.symm
      obtain rfl : fn = Tryd.f4 := (Option.some.inj (Tryd.func4.symm.trans hfn)).symm
      exact ⟨by kernel_rfl, fun j t ht => by
        rw [Tryd.params4] at ht
        have hm : t ∈ [24] := by simpa using Array.mem_of_getElem? ht
        have hall : ([24].all fun u => !Tryd.prog.wantsStandIn u) = true := by kernel_rfl
        exact (show Tryd.prog.wantsStandIn t = false by simpa using List.all_eq_true.1 hall t hm)⟩)
    (by kernel_rfl)
end Go.Proofs.YtlfiaccpihjldaaDoor.fnExactJsonFits
