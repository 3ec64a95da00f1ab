/-
  The texts on which the last one leans, part 7: RightV, FitO, RightS, RightO, RightR, KeepT, RightW, RightX, SortedI, SortedS, SrtL, LaidV, Tv, MarkT, MarkTree, MarkWalk, HeldWalk, HeldV.
-/
import Derived.Test.YtcjamnfboifjeaaDoorPLSortedf
import Derived.BigQuiet
import Derived.OneCell
import Derived.Shelf.Abstract
import Derived.Deep.RegionHeld3
import Derived.Deep.RegionWith
import Derived.Test.YtcjamnfboifjeaaDoorShelfV
import Derived.PinnedBridge
import Derived.Lib.LaidU8T
import Derived.Handy
/-
  A right value, as the program asks it; that is what the reference asks, where there are not too many nodes.
-/
namespace Go.Proofs.YtcjamnfboifjeaaDoor
open Go.RowKit
set_option linter.unusedVariables false
set_option maxRecDepth 100000

mutual
/-- A value is right as the program asks it, at most so many kids deep. -/
def V.rightI : Int → V → Prop
  | d, .mk k n e s ks => 0 ≤ d ∧ nodeOk (.mk k n e s ks) ∧ kidsI (.mk k n e s ks) ∧ Vs.rightI (d - 1) ks
def Vs.rightI : Int → List V → Prop
  | _, [] => True
  | d, v :: r => V.rightI d v ∧ Vs.rightI d r
end
theorem V.rightI_eq (d : Int) (v : V) : V.rightI d v ↔ 0 ≤ d ∧ nodeOk v ∧ kidsI v ∧ Vs.rightI (d - 1) v.kids := by cases v; simp [V.rightI, V.kids]
theorem Vs.rightI_iff (d : Int) : ∀ l : List V, Vs.rightI d l ↔ ∀ i (h : i < l.length), V.rightI d l[i]
  | [] => by simp [Vs.rightI]
  | v :: r => by
    simp only [Vs.rightI]
    rw [Vs.rightI_iff d r]
    constructor
    · rintro ⟨h1, h2⟩ i hi
      cases i with
      | zero => exact h1
      | succ i => exact h2 i (by simpa using hi)
    · intro h
      exact ⟨h 0 (by simp), fun i hi => h (i + 1) (by simpa using hi)⟩
theorem Vs.rightI_take (d : Int) (l : List V) (h : Vs.rightI d (l.take l.length)) : Vs.rightI d l := by rwa [List.take_length] at h
theorem Vs.rightI_step (d : Int) (l : List V) (j : Nat) (hj : j < l.length) (h : Vs.rightI d (l.take j)) (hv : V.rightI d l[j]) : Vs.rightI d (l.take (j + 1)) := by
  rw [Vs.rightI_iff] at h ⊢
  intro i hi
  rw [List.length_take] at hi
  by_cases e : i = j
  · subst e; simpa using hv
  · have := h i (by rw [List.length_take]; omega)
    simpa using this

/-- A key that is right has no kids and no e. -/
def leafy (v : V) : Prop := v.e = 0 ∧ v.kids.length = 0
theorem leafy_right {d : Int} {v : V} (h : V.right d v) (hk : isKeyB v = true) : leafy v := by
  obtain ⟨_, ⟨h1, h2⟩, _⟩ := (V.right_eq d v).1 h
  have hk' : v.k = 5 ∨ v.k = 3 := by simpa [isKeyB] using hk
  unfold nodeOk at h1
  unfold kidsOk at h2
  rcases hk' with hk' | hk' <;> simp [hk'] at h1 h2
  · exact ⟨h1.2.1, by simp [h2]⟩
  · exact ⟨h1.1, by simp [h2]⟩
theorem keySame_iff {a b : V} (ha : leafy a) (hb : leafy b) : keySame a b ↔ keyEq a b := by
  unfold keySame keyEq
  constructor
  · intro h
    have h0 : V.ord b a = 0 := by
      by_cases h0 : V.ord b a = 0
      · exact h0
      · rw [V.same_no h0] at h; cases h
    obtain ⟨h1, h2, h3, h4, h5⟩ := (V.ord_iff b a).1 h0
    exact ⟨h1.symm, h2.symm, h4.symm⟩
  · rintro ⟨h1, h2, h3⟩
    rw [V.same_yes h1.symm h2.symm (by rw [ha.1, hb.1]) h3.symm]
    have e1 : a.kids = [] := List.eq_nil_of_length_eq_zero ha.2
    have e2 : b.kids = [] := List.eq_nil_of_length_eq_zero hb.2
    rw [e1, e2]
    unfold Vs.same
    exact decide_eq_true ⟨rfl, by simp [Vs.cmp]⟩
theorem pairsTo_iff {l : List V} (h : ∀ i (hi : i < l.length), isKeyB l[i] = true → leafy l[i]) (m : Nat) : pairsTo keySame l m ↔ pairsTo keyEq l m := by
  unfold pairsTo
  constructor
  · intro hp i hi hm he
    obtain ⟨h1, h2⟩ := hp i hi hm he
    refine ⟨h1, fun k hk hke hq => h2 k hk hke ((keySame_iff (h k (by omega) (hp k (by omega) (by omega) hke).1) (h i hi h1)).2 hq)⟩
  · intro hp i hi hm he
    obtain ⟨h1, h2⟩ := hp i hi hm he
    refine ⟨h1, fun k hk hke hq => h2 k hk hke ((keySame_iff (h k (by omega) (hp k (by omega) (by omega) hke).1) (h i hi h1)).1 hq)⟩
theorem kidsI_iff {d : Int} {v : V} (h : Vs.right d v.kids) (hn : v.kids.length ≤ 300) : kidsI v ↔ kidsOk v := by
  unfold kidsI kidsOk
  have h2 : pairsI v.kids ↔ pairsOk v.kids := by
    unfold pairsI pairsOk
    rw [pairsTo_iff (fun i hi hk => leafy_right ((Vs.right_iff _ _).1 h i hi) hk)]
    exact ⟨fun ⟨a, b⟩ => ⟨a, b, hn⟩, fun ⟨a, b, _⟩ => ⟨a, b⟩⟩
  rw [h2]
theorem rightI_iff : ∀ v : V, v.nodes ≤ 301 → ∀ d, V.rightI d v ↔ V.right d v := by
  refine V.all fun v hk hn d => ?_
  have hkids : Vs.rightI (d - 1) v.kids ↔ Vs.right (d - 1) v.kids := by
    rw [Vs.rightI_iff, Vs.right_iff]
    have h1 : ∀ i (h : i < v.kids.length), (v.kids[i]).nodes ≤ 301 := fun i h => by have := Vs.nodes_get i h; have := V.nodes_eq v; omega
    exact ⟨fun h i hi => (hk i hi (h1 i hi) _).1 (h i hi), fun h i hi => (hk i hi (h1 i hi) _).2 (h i hi)⟩
  rw [V.rightI_eq, V.right_eq, hkids]
  have hl : v.kids.length ≤ 300 := by have := Vs.len_nodes v.kids; have := V.nodes_eq v; omega
  unfold ownOk
  constructor
  · rintro ⟨a, b, c, e⟩; exact ⟨a, ⟨b, (kidsI_iff e hl).1 c⟩, e⟩
  · rintro ⟨a, ⟨b, c⟩, e⟩; exact ⟨a, b, (kidsI_iff e hl).2 c, e⟩
/-- What is asked of a value where there may be so many nodes. -/
def inV (L : Nat) (d : Int) (v : V) : Prop := v.nodes ≤ L ∧ V.rightI (12 - d) v
theorem inV_okV (v : V) : inV 300 0 v ↔ okV v := by
  unfold inV okV
  constructor
  · rintro ⟨h1, h2⟩; exact ⟨(rightI_iff v (by omega) _).1 (by simpa using h2), h1⟩
  · rintro ⟨h1, h2⟩; exact ⟨h2, (rightI_iff v (by omega) _).2 (by simpa using h1)⟩
end Go.Proofs.YtcjamnfboifjeaaDoor

/-
  The maps of a right value can be sorted.
-/
namespace Go.Proofs.YtcjamnfboifjeaaDoor
open Go.RowKit
set_option linter.unusedVariables false
set_option linter.unusedSimpArgs false

theorem prs_get {l : List V} {j : Nat} (h : j < (prs l).length) : ∃ (h1 : 2 * j < l.length) (h2 : 2 * j + 1 < l.length), (prs l)[j] = (l[2 * j], l[2 * j + 1]) := by
  have hl := prs_len l
  have h2 : 2 * j + 1 < l.length := by omega
  have e := prs_at l j h2
  rw [List.getElem?_eq_getElem h] at e
  injection e with e
  exact ⟨by omega, h2, e⟩
theorem Vs.fitM_of : ∀ {l : List V}, (∀ i (h : i < l.length), V.fitM l[i]) → Vs.fitM l
  | [], _ => by simp only [Vs.fitM]
  | v :: r, h => by
    simp only [Vs.fitM]
    exact ⟨h 0 (by simp), Vs.fitM_of fun i hi => by have := h (i + 1) (by simpa using hi); simpa using this⟩
theorem empty_of_size {b : ByteArray} (h : b.size = 0) : b = ⟨#[]⟩ := by
  obtain ⟨d⟩ := b
  have : d.size = 0 := h
  rw [Array.eq_empty_of_size_eq_zero this]
theorem fit_right (v : V) : ∀ d, V.right d v → V.fitM v := by
  refine V.all (P := fun v => ∀ d, V.right d v → V.fitM v) (fun v hk d h => ?_) v
  obtain ⟨_, ⟨h1, h2⟩, h3⟩ := (V.right_eq d v).1 h
  rw [Vs.right_iff] at h3
  refine (V.fitM_eq v).2 ⟨fun h8 => ?_, Vs.fitM_of fun i hi => hk i hi _ (h3 i hi)⟩
  unfold nodeOk at h1
  rw [if_pos (by omega)] at h1
  unfold kidsOk at h2
  rw [if_neg (by omega), if_neg (by omega), if_pos h8] at h2
  obtain ⟨p1, p2, p3⟩ := h2
  have key : ∀ j (hj : 2 * j < v.kids.length), isKeyB v.kids[2 * j] = true ∧ leafy v.kids[2 * j] := fun j hj => by
    have := (p1 (2 * j) hj hj (by omega)).1
    exact ⟨this, leafy_right (h3 _ hj) this⟩
  refine ⟨by omega, p2, fun x hx => ?_, ?_, h1.1, h1.2.1, empty_of_size h1.2.2⟩
  · obtain ⟨j, hj, rfl⟩ := List.getElem_of_mem hx
    obtain ⟨a, b, e⟩ := prs_get hj
    obtain ⟨q1, q2⟩ := key j a
    rw [e]
    refine ⟨List.eq_nil_of_length_eq_zero q2.2, ?_⟩
    unfold isKeyB at q1
    have q3 := of_decide_eq_true q1
    show (v.kids[2 * j]).k ≠ 8
    omega
  · rw [List.pairwise_iff_getElem]
    intro i j hi hj hij hc
    obtain ⟨a1, a2, e1⟩ := prs_get hi
    obtain ⟨b1, b2, e2⟩ := prs_get hj
    rw [e1, e2] at hc
    have h0 : V.cmp v.kids[2 * j] v.kids[2 * i] = 0 := by
      have := V.cmp_swap v.kids[2 * i] v.kids[2 * j]
      have hc' : V.cmp v.kids[2 * i] v.kids[2 * j] = 0 := hc
      omega
    exact (p1 (2 * j) b1 b1 (by omega)).2 (2 * i) (by omega) (by omega) ((keySame_iff (key i a1).2 (key j b1).2).1 (decide_eq_true h0))
/-- Sorted. -/
noncomputable def sortV (v : V) : V := if okV v then v.srt else v
end Go.Proofs.YtcjamnfboifjeaaDoor

/-
  The reference's tests of a value: a number times ten, keys of pairs.
-/
namespace Go.Proofs.YtcjamnfboifjeaaDoor
open Go.RowKit
set_option linter.unusedVariables false
set_option maxRecDepth 100000

theorem tens_step (n : Int) (k : Nat) (h : inR (n * 10)) : tens n (k + 1) = tens (n * 10) k := by
  conv => lhs; unfold tens
  rw [if_pos h]
theorem tens_stop (n : Int) (k : Nat) (h : ¬ inR (n * 10)) : tens n (k + 1) = none := by
  unfold tens
  rw [if_neg h]

theorem wrap_tdiv (y : Int) : wrap64 (Int.tdiv (wrap64 y) 10) = Int.tdiv (wrap64 y) 10 := by
  have h1 := wrap64_eq y
  have h2 := Int.tmod_add_mul_tdiv (wrap64 y) 10
  have h3 : -10 < Int.tmod (wrap64 y) 10 ∧ Int.tmod (wrap64 y) 10 < 10 := by
    constructor
    · have := Int.lt_tmod_of_pos (wrap64 y) (show (0 : Int) < 10 by omega); omega
    · exact Int.tmod_lt_of_pos _ (by omega)
  rw [wrap64_eq (Int.tdiv _ _)]
  omega
theorem inR_div {x : Int} (h : inR (x * 10)) : wrap64 (x * 10) = x * 10 ∧ Int.tdiv (x * 10) 10 = x := by
  unfold inR at h
  exact ⟨by rw [wrap64_eq]; omega, Int.mul_tdiv_cancel _ (by omega)⟩

set_option maxHeartbeats 1000000 in
theorem specWhole_pos (n : Int) (m : Nat) (w : World) (hn : inR n) (hm : 0 < m) (hm2 : m ≤ 20) :
    Calls Tryd.prog 101 #[.int .i64 n, .int .i64 (m : Int)] w fun e w' => e = .returned (.bool (tens n m).isSome) ∧ w = w' := by
  have hmp : decide ((0 : Int) < m) = true := decide_eq_true (by omega)
  go_enter Tryd.func101, Tryd.ntmps101
  go_wp2_with fail
  go_loop [0, 5, 6] (fun z i _ => ∃ (j : Nat) (x : Int), j ≤ m ∧ i = .int .i64 j ∧ z = .int .i64 x ∧ inR x ∧ tens n m = tens x (m - j)) (fun _ i _ => m - (intOf i).toNat)
  case atStart => exact ⟨0, n, by omega, rfl, rfl, hn, by simp⟩
  case round =>
    obtain ⟨j, x, hj, rfl, rfl, hx, ht⟩ := hrel
    by_cases hlt : j < m
    · have hw := wrap_ten hx
      have hr := hx
      unfold inR at hr
      obtain ⟨k, hk⟩ : ∃ k, m - j = k + 1 := ⟨m - j - 1, by omega⟩
      rw [hk] at ht
      by_cases h10 : inR (x * 10)
      · have hin := h10
        unfold inR at hin
        obtain ⟨hwz, hdz⟩ := inR_div h10
        have hq : (Int.tdiv (x * 10) 10 == x) = true := by rw [hdz]; simp
        have HT := Lib.hid (ht.trans (tens_step x k h10))
        have H10 := Lib.hid h10
        clear ht hw hx h10
        go_wp2_with fail
        go_round
        case rel => exact ⟨j + 1, x * 10, by omega, by go_num, by go_num, H10.out, by rw [HT.out]; congr 1; omega⟩
        case measure => simp [intOf]; omega
      · have hq : (wrap64 (Int.tdiv (wrap64 (x * 10)) 10) == x) = false := by rw [wrap_tdiv, beq_eq_false_iff_ne]; exact fun e => h10 (hw.1 e)
        have HT := Lib.hid (ht.trans (tens_stop x k h10))
        clear ht hw hx h10
        go_wp2_with fail
        go_ret
        exact ⟨ret_bool (by rw [HT.out]; rfl), rfl⟩
    · obtain rfl : j = m := by omega
      have HT : Hid (tens n j = some x) := Lib.hid (by rw [ht, Nat.sub_self]; rfl)
      clear ht hx
      go_wp2_with fail
      go_ret
      exact ⟨ret_bool (by rw [HT.out]; rfl), rfl⟩
theorem specWhole (n e : Int) (w : World) (hn : inR n) (he : -20 ≤ e ∧ e ≤ 20) :
    Calls Tryd.prog 101 #[.int .i64 n, .int .i64 e] w fun r w' => r = .returned (.bool (decide (0 < e) && (tens n e.toNat).isSome)) ∧ w = w' := by
  by_cases h : 0 < e
  · obtain ⟨m, rfl⟩ := Int.eq_ofNat_of_zero_le (show 0 ≤ e by omega)
    refine (specWhole_pos n m w hn (by omega) (by omega)).mono ?_
    rintro r w' ⟨rfl, rfl⟩
    exact ⟨ret_bool (by rw [decide_eq_true h, Int.toNat_natCast]; rfl), rfl⟩
  · have hd : decide ((0 : Int) < e) = false := decide_eq_false h
    go_enter Tryd.func101, Tryd.ntmps101
    go_wp2_with fail
    go_loop [5] (fun i => i = .int .i64 0) (fun _ => 0)
    case atStart => exact rfl
    case round =>
      obtain rfl := hrel
      go_wp2_with fail
      go_ret
      exact ⟨ret_bool (by first | rfl | (rw [hd]; rfl)), rfl⟩

theorem text_iff (a b : ByteArray) : (a.toList == b.toList) = decide (a = b) := by
  rw [Bool.eq_iff_iff, decide_eq_true_iff, beq_iff_eq, ByteArray.toList_eq, ByteArray.toList_eq]
  constructor
  · intro h
    cases a; cases b
    simp only [ByteArray.mk.injEq]
    exact Array.toList_inj.1 h
  · intro h; rw [h]
theorem keyEq_bools (a b : V) : (((a.k == b.k) = true ∧ (a.n == b.n) = true ∧ (a.s.toList == b.s.toList) = true) ∧ keyEq a b) ∨ (((a.k == b.k) = false ∨ ((a.k == b.k) = true ∧ (a.n == b.n) = false) ∨ ((a.k == b.k) = true ∧ (a.n == b.n) = true ∧ (a.s.toList == b.s.toList) = false)) ∧ ¬ keyEq a b) := by
  unfold keyEq
  rw [text_iff]
  simp only [beq_iff_eq, beq_eq_false_iff_ne, decide_eq_true_iff, decide_eq_false_iff_not]
  by_cases h1 : a.k = b.k <;> by_cases h2 : a.n = b.n <;> by_cases h3 : a.s = b.s <;> simp [h1, h2, h3]
theorem pairsTo_step {R : V → V → Prop} {l : List V} {j : Nat} (hj : j < l.length) (he : j % 2 = 0) (h : pairsTo R l j) (hk : isKeyB l[j] = true) (hn : ∀ k (hk : k < j), k % 2 = 0 → ¬ R (l[k]'(by omega)) l[j]) : pairsTo R l (j + 2) := by
  intro i hi hlt hev
  by_cases e : i = j
  · subst e; exact ⟨hk, hn⟩
  · exact h i hi (by omega) hev
theorem pairsTo_end {R : V → V → Prop} {l : List V} {j : Nat} (hj : l.length ≤ j) (h : pairsTo R l j) : pairsTo R l l.length := fun i hi _ he => h i hi (by omega) he
theorem pairsTo_zero (R : V → V → Prop) (l : List V) : pairsTo R l 0 := fun i _ h => by omega

set_option maxHeartbeats 4000000 in
theorem specPairs (l : List V) (A : Option Addr) (cap : Nat) (w : World) (hl : l.length ≤ 1048576) (hat : Vs.at_ w 0 w.heap.size l A) :
    Calls Tryd.prog 103 #[.slice A l.length cap] w fun e w' => e = .returned (.bool (decide (pairsOk l))) ∧ Below w.heap.size w w' := by
  have HA := Lib.hid hat
  clear hat
  go_enter Tryd.func103, Tryd.ntmps103
  go_wp2_with fail
  go_loopw [3, 4] (fun i k wr => ∃ j : Nat, j ≤ l.length + 1 ∧ j % 2 = 0 ∧ i = .int .i64 j ∧ pairsTo keyEq l j ∧ Below w.heap.size w wr) (fun i _ _ => l.length + 2 - (intOf i).toNat)
  case atStart => exact ⟨0, by omega, rfl, rfl, pairsTo_zero _ _, Below.refl _ _⟩
  case round =>
    obtain ⟨j, hj, he, rfl, hp, hb⟩ := hrel
    have HP := Lib.hid hp
    clear hp
    by_cases hlt : j < l.length
    · obtain ⟨b, off, A', cap', eA, g1, g2, g3, ⟨c0, c1, c2, c3, c4⟩, g5⟩ := Vs.at_get j hlt (Vs.at_below HA.out hb (Nat.le_refl _))
      subst eA
      by_cases hkey : isKeyB l[j] = true
      · have hkk := hkey
        unfold isKeyB at hkk
        rw [decide_eq_true_iff] at hkk
        have HKEY := Lib.hid hkey
        clear hkey
        rcases (show (l[j].k != 5) = false ∨ ((l[j].k != 5) = true ∧ (l[j].k != 3) = false) by
          rcases hkk with h | h
          · left; rw [h]; rfl
          · right; rw [h]; exact ⟨rfl, rfl⟩) with hc | hc
        all_goals
          clear hkk
          go_wp2_with fail
          go_loopw [4] (fun k wq => ∃ m : Nat, m ≤ j + 1 ∧ m % 2 = 0 ∧ k = .int .i64 m ∧ (∀ q (hq : q < j), q < m → q % 2 = 0 → ¬ keyEq (l[q]'(by omega)) l[j]) ∧ Below w.heap.size w wq) (fun k _ => j + 2 - (intOf k).toNat)
          case atStart => exact ⟨0, by omega, rfl, rfl, fun q _ h => by omega, hb⟩
          case round =>
            obtain ⟨m, hm, hme, rfl, hnot, hbq⟩ := hrel
            have HNOT := Lib.hid hnot
            clear hnot
            by_cases hmj : m < j
            · have hmlt : m < l.length := by omega
              obtain ⟨b1, off1, A1, cap1, e1, k1, k2, k3, ⟨d0, d1, d2, d3, d4⟩, k5⟩ := Vs.at_get m hmlt (Vs.at_below HA.out hbq (Nat.le_refl _))
              obtain ⟨b2, off2, A2, cap2, e2, m1, m2, m3, ⟨f0, f1, f2, f3, f4⟩, m5⟩ := Vs.at_get j hlt (Vs.at_below HA.out hbq (Nat.le_refl _))
              injection e1 with e1
              injection e1 with e11 e12
              injection e2 with e2
              injection e2 with e21 e22
              subst e11 e12 e21 e22
              rcases keyEq_bools l[m] l[j] with ⟨⟨t1, t2, t3⟩, hq⟩ | ⟨ht, hq⟩
              · have HN : Hid (decide (pairsOk l) = false) := Lib.hid (decide_eq_false (fun h => (h.1 j hlt hlt he).2 m hmj hme hq))
                clear hq
                go_wp2_with fail
                go_quiet (fail)
                go_wp2_with fail
                go_ret
                exact ⟨ret_bool HN.out.symm, below_drewN hbq _⟩
              · have HQ := Lib.hid hq
                clear hq
                rcases ht with t1 | ⟨t1, t2⟩ | ⟨t1, t2, t3⟩
                all_goals
                  go_wp2_with fail
                  go_quiet (fail)
                  go_wp2_with fail
                  go_roundw
                  case rel => exact ⟨m + 2, by omega, by omega, by go_num, fun q hq1 hq2 hq3 => by
                    by_cases e : q = m
                    · subst e; exact HQ.out
                    · exact HNOT.out q hq1 (by omega) hq3, below_drewN hbq _⟩
                  case measure => simp [intOf]; omega
            · have HST := Lib.hid (pairsTo_step hlt he HP.out HKEY.out (fun k hk hke => HNOT.out k hk (by omega) hke))
              go_wp2_with fail
              go_roundw
              case rel => exact ⟨j + 2, by omega, by omega, by go_num, HST.out, hbq⟩
              case measure => simp [intOf]; omega
      · have hkk : ¬ (l[j].k = 5 ∨ l[j].k = 3) := by unfold isKeyB at hkey; rwa [decide_eq_true_iff] at hkey
        have hc1 : (l[j].k != 5) = true := by simp; omega
        have hc2 : (l[j].k != 3) = true := by simp; omega
        have HN : Hid (decide (pairsOk l) = false) := Lib.hid (decide_eq_false (fun h => hkey (h.1 j hlt hlt he).1))
        clear hkk hkey
        go_wp2_with fail
        go_ret
        exact ⟨ret_bool HN.out.symm, hb⟩
    · have HE : Hid (decide (pairsOk l) = (decide (l.length % 2 = 0) && decide (l.length ≤ 300))) := Lib.hid (by
        unfold pairsOk
        rw [show (pairsTo keyEq l l.length ∧ l.length % 2 = 0 ∧ l.length ≤ 300) = (l.length % 2 = 0 ∧ l.length ≤ 300) from propext ⟨fun h => h.2, fun h => ⟨pairsTo_end (by omega) HP.out, h⟩⟩]
        rw [Bool.decide_and])
      by_cases hev : l.length % 2 = 0
      · have hx : ((l.length : Int) % 2 == 0) = true := by rw [beq_iff_eq]; omega
        go_wp2_with fail
        go_ret
        exact ⟨ret_bool (by rw [HE.out, decide_eq_true hev, Bool.true_and]; exact decide_eq_decide.2 (by omega)), hb⟩
      · have hx : ((l.length : Int) % 2 == 0) = false := by rw [beq_eq_false_iff_ne]; omega
        go_wp2_with fail
        go_ret
        exact ⟨ret_bool (by rw [HE.out, decide_eq_false hev]; rfl), hb⟩
end Go.Proofs.YtcjamnfboifjeaaDoor

/-
  The reference's test of a value but for its kids' rightness.
-/
namespace Go.Proofs.YtcjamnfboifjeaaDoor
open Go.RowKit
set_option linter.unusedVariables false
set_option maxRecDepth 100000

theorem bl_q {w w1 : World} {o : Obj} {n : Nat} (h : Below ((w.alloc o).drewN n).heap.size ((w.alloc o).drewN n) w1) : Below w.heap.size w w1 :=
  (below_drewN ((Below.refl w.heap.size w).alloc (Nat.le_refl _) o) n).trans (h.mono (by show w.heap.size ≤ (w.alloc o).heap.size; simp))
theorem blk_q {w : World} {g n : Nat} {t : TypeId} {cs : Array Value} (h : Blk w g t cs) : Blk (w.drewN n) g t cs := h
theorem at_q {w : World} {o : Obj} {n : Nat} {l : List V} {A : Option Addr} (h : Vs.at_ w 0 w.heap.size l A) : Vs.at_ ((w.alloc o).drewN n) 0 ((w.alloc o).drewN n).heap.size l A :=
  Vs.at_more (Nat.le_refl _) (by show w.heap.size ≤ (w.alloc o).heap.size; simp) _ _ (Vs.at_keep (w := w.alloc o) (w' := (w.alloc o).drewN n) (fun _ _ _ => rfl) _ _ (Vs.at_alloc h (Nat.le_refl _) o))
theorem s_empty (s : ByteArray) : s.size = 0 ↔ s.toList = [] := by
  rw [ByteArray.toList_eq]
  constructor
  · intro h
    have : s.data.toList.length = 0 := by simpa using h
    exact List.length_eq_zero_iff.1 this
  · intro h
    have : s.data.toList.length = 0 := by rw [h]; rfl
    simpa using this
theorem len0 (n : Nat) : n = 0 ↔ ((n : Int) == 0) = true := by rw [beq_iff_eq]; omega
theorem len1 (n : Nat) : n = 1 ↔ ((n : Int) == 1) = true := by rw [beq_iff_eq]; omega
theorem sz2000 (n : Nat) : n ≤ 2000 ↔ (n : Int) ≤ 2000 := by omega
theorem own_k012 {v : V} (h : v.k = 0 ∨ v.k = 1 ∨ v.k = 2) : ownOk v ↔ v.n = 0 ∧ v.e = 0 ∧ v.s.toList = [] ∧ ((v.kids.length : Int) == 0) = true := by
  unfold ownOk nodeOk kidsOk
  rw [if_pos (by omega), if_neg (by omega), if_neg (by omega), if_neg (by omega), s_empty, len0]
  simp only [and_assoc]
theorem own_k3 {v : V} (h : v.k = 3) : ownOk v ↔ v.e = 0 ∧ v.s.toList = [] ∧ ((v.kids.length : Int) == 0) = true := by
  unfold ownOk nodeOk kidsOk
  rw [if_neg (by omega), if_pos (by omega), if_neg (by omega), if_neg (by omega), if_neg (by omega), s_empty, len0]
  simp only [and_assoc]
theorem own_k4 {v : V} (h : v.k = 4) : ownOk v ↔ decOk v.n v.e ∧ v.s.toList = [] ∧ ((v.kids.length : Int) == 0) = true := by
  unfold ownOk nodeOk kidsOk
  rw [if_neg (by omega), if_neg (by omega), if_pos (by omega), if_neg (by omega), if_neg (by omega), if_neg (by omega), s_empty, len0]
  simp only [and_assoc]
theorem own_k5 {v : V} (h : v.k = 5) : ownOk v ↔ v.n = 0 ∧ v.e = 0 ∧ textOk v.s = true ∧ (v.s.size : Int) ≤ 2000 ∧ ((v.kids.length : Int) == 0) = true := by
  unfold ownOk nodeOk kidsOk
  rw [if_neg (by omega), if_neg (by omega), if_neg (by omega), if_pos (by omega), if_neg (by omega), if_neg (by omega), if_neg (by omega), sz2000, len0]
  simp only [and_assoc]
theorem own_k6 {v : V} (h : v.k = 6) : ownOk v ↔ v.n = 0 ∧ v.e = 0 ∧ (v.s.size : Int) ≤ 2000 ∧ ((v.kids.length : Int) == 0) = true := by
  unfold ownOk nodeOk kidsOk
  rw [if_neg (by omega), if_neg (by omega), if_neg (by omega), if_neg (by omega), if_pos (by omega), if_neg (by omega), if_neg (by omega), if_neg (by omega), sz2000, len0]
  simp only [and_assoc]
theorem own_k7 {v : V} (h : v.k = 7) : ownOk v ↔ v.n = 0 ∧ v.e = 0 ∧ v.s.toList = [] := by
  unfold ownOk nodeOk kidsOk
  rw [if_pos (by omega), if_pos (by omega), s_empty]
  simp only [and_true]
theorem own_k8 {v : V} (h : v.k = 8) : ownOk v ↔ v.n = 0 ∧ v.e = 0 ∧ v.s.toList = [] ∧ pairsOk v.kids := by
  unfold ownOk nodeOk kidsOk
  rw [if_pos (by omega), if_neg (by omega), if_neg (by omega), if_pos (by omega), s_empty]
  simp only [and_assoc]
theorem own_k9 {v : V} (h : v.k = 9) : ownOk v ↔ (0 ≤ v.n ∧ v.n ≤ 1000000) ∧ v.e = 0 ∧ v.s.toList = [] ∧ ((v.kids.length : Int) == 1) = true := by
  unfold ownOk nodeOk kidsOk
  rw [if_neg (by omega), if_neg (by omega), if_neg (by omega), if_neg (by omega), if_neg (by omega), if_pos (by omega), if_neg (by omega), if_pos (by omega), s_empty, len1]
  simp only [and_assoc]
theorem dec_bool {n e : Int} (h1 : -20 ≤ e) (h2 : e ≤ 20) (h3 : e ≠ 0) (h4 : -999999999999999999 ≤ n) (h5 : n ≤ 999999999999999999) (h6 : ¬ Int.tmod n 10 = 0) : (!(decide (0 < e) && (tens n e.toNat).isSome)) = true ↔ decOk n e := by
  unfold decOk
  cases ht : tens n e.toNat with
  | none => simp [*]
  | some x => simp [*]
theorem own_else {v : V} (h : v.k < 0 ∨ 9 < v.k) : ¬ ownOk v := by
  unfold ownOk nodeOk
  rw [if_neg (by omega), if_neg (by omega), if_neg (by omega), if_neg (by omega), if_neg (by omega), if_neg (by omega)]
  exact fun h => h.1

set_option maxHeartbeats 4000000 in
theorem specOwn_0 (v : V) (A : Option Addr) (cap : Nat) (w : World) (hk : v.k = 0) (hl : v.kids.length ≤ 1048576) :
    Calls Tryd.prog 90 #[v.agg A cap] w fun e w' => e = .returned (.bool (decide (ownOk v))) ∧ Below w.heap.size w w' := by
  have HO := Lib.hid (own_k012 (.inl hk))
  unfold V.agg
  go_enter Tryd.func90, Tryd.ntmps90
  go_wp2_with fail
  go_quiet (fail)
  go_wp2_with fail
  all_goals go_ret
  all_goals refine ⟨ret_bool ?_, below_drewN ((Below.refl _ _).alloc (Nat.le_refl _) _) _⟩
  all_goals try generalize ((v.kids.length : Int) == 0) = bl at *
  all_goals first
    | (simp [HO.out, *]; done)
    | (simp [HO.out, *]; intro; omega)
    | (simp [HO.out, *]; cases v.s.toList <;> rfl)

set_option maxHeartbeats 4000000 in
theorem specOwn_1 (v : V) (A : Option Addr) (cap : Nat) (w : World) (hk : v.k = 1) (hl : v.kids.length ≤ 1048576) :
    Calls Tryd.prog 90 #[v.agg A cap] w fun e w' => e = .returned (.bool (decide (ownOk v))) ∧ Below w.heap.size w w' := by
  have HO := Lib.hid (own_k012 (.inr (.inl hk)))
  unfold V.agg
  go_enter Tryd.func90, Tryd.ntmps90
  go_wp2_with fail
  go_quiet (fail)
  go_wp2_with fail
  all_goals go_ret
  all_goals refine ⟨ret_bool ?_, below_drewN ((Below.refl _ _).alloc (Nat.le_refl _) _) _⟩
  all_goals try generalize ((v.kids.length : Int) == 0) = bl at *
  all_goals first
    | (simp [HO.out, *]; done)
    | (simp [HO.out, *]; intro; omega)
    | (simp [HO.out, *]; cases v.s.toList <;> rfl)

set_option maxHeartbeats 4000000 in
theorem specOwn_2 (v : V) (A : Option Addr) (cap : Nat) (w : World) (hk : v.k = 2) (hl : v.kids.length ≤ 1048576) :
    Calls Tryd.prog 90 #[v.agg A cap] w fun e w' => e = .returned (.bool (decide (ownOk v))) ∧ Below w.heap.size w w' := by
  have HO := Lib.hid (own_k012 (.inr (.inr hk)))
  unfold V.agg
  go_enter Tryd.func90, Tryd.ntmps90
  go_wp2_with fail
  go_quiet (fail)
  go_wp2_with fail
  all_goals go_ret
  all_goals refine ⟨ret_bool ?_, below_drewN ((Below.refl _ _).alloc (Nat.le_refl _) _) _⟩
  all_goals try generalize ((v.kids.length : Int) == 0) = bl at *
  all_goals first
    | (simp [HO.out, *]; done)
    | (simp [HO.out, *]; intro; omega)
    | (simp [HO.out, *]; cases v.s.toList <;> rfl)

set_option maxHeartbeats 4000000 in
theorem specOwn_3 (v : V) (A : Option Addr) (cap : Nat) (w : World) (hk : v.k = 3) (hl : v.kids.length ≤ 1048576) :
    Calls Tryd.prog 90 #[v.agg A cap] w fun e w' => e = .returned (.bool (decide (ownOk v))) ∧ Below w.heap.size w w' := by
  have HO := Lib.hid (own_k3 hk)
  unfold V.agg
  go_enter Tryd.func90, Tryd.ntmps90
  go_wp2_with fail
  go_quiet (fail)
  go_wp2_with fail
  all_goals go_ret
  all_goals refine ⟨ret_bool ?_, below_drewN ((Below.refl _ _).alloc (Nat.le_refl _) _) _⟩
  all_goals try generalize ((v.kids.length : Int) == 0) = bl at *
  all_goals first
    | (simp [HO.out, *]; done)
    | (simp [HO.out, *]; intro; omega)
    | (simp [HO.out, *]; cases v.s.toList <;> rfl)

set_option maxHeartbeats 4000000 in
theorem specOwn_6 (v : V) (A : Option Addr) (cap : Nat) (w : World) (hk : v.k = 6) (hl : v.kids.length ≤ 1048576) :
    Calls Tryd.prog 90 #[v.agg A cap] w fun e w' => e = .returned (.bool (decide (ownOk v))) ∧ Below w.heap.size w w' := by
  have HO := Lib.hid (own_k6 hk)
  unfold V.agg
  go_enter Tryd.func90, Tryd.ntmps90
  go_wp2_with fail
  go_quiet (fail)
  go_wp2_with fail
  all_goals go_ret
  all_goals refine ⟨ret_bool ?_, below_drewN ((Below.refl _ _).alloc (Nat.le_refl _) _) _⟩
  all_goals try generalize ((v.kids.length : Int) == 0) = bl at *
  all_goals first
    | (simp [HO.out, *]; done)
    | (simp [HO.out, *]; intro; omega)
    | (simp [HO.out, *]; cases v.s.toList <;> rfl)

set_option maxHeartbeats 4000000 in
theorem specOwn_7 (v : V) (A : Option Addr) (cap : Nat) (w : World) (hk : v.k = 7) (hl : v.kids.length ≤ 1048576) :
    Calls Tryd.prog 90 #[v.agg A cap] w fun e w' => e = .returned (.bool (decide (ownOk v))) ∧ Below w.heap.size w w' := by
  have HO := Lib.hid (own_k7 hk)
  unfold V.agg
  go_enter Tryd.func90, Tryd.ntmps90
  go_wp2_with fail
  go_quiet (fail)
  go_wp2_with fail
  all_goals go_ret
  all_goals refine ⟨ret_bool ?_, below_drewN ((Below.refl _ _).alloc (Nat.le_refl _) _) _⟩
  all_goals try generalize ((v.kids.length : Int) == 0) = bl at *
  all_goals first
    | (simp [HO.out, *]; done)
    | (simp [HO.out, *]; intro; omega)
    | (simp [HO.out, *]; cases v.s.toList <;> rfl)

set_option maxHeartbeats 4000000 in
theorem specOwn_5 (v : V) (A : Option Addr) (cap : Nat) (w : World) (hk : v.k = 5) (hl : v.kids.length ≤ 1048576) (hs : v.s.size ≤ 1048576) :
    Calls Tryd.prog 90 #[v.agg A cap] w fun e w' => e = .returned (.bool (decide (ownOk v))) ∧ Below w.heap.size w w' := by
  have HO := Lib.hid (own_k5 hk)
  unfold V.agg
  go_enter Tryd.func90, Tryd.ntmps90
  go_wp2_with fail
  go_quiet (fail)
  go_wp2_with (go_at_call 102; refine (specTextOk v.s _ hs).mono ?_; rintro e w1 ⟨rfl, hb1⟩; obtain ⟨p0, p1, p2, p3, p4⟩ := ((blk_q (Blk.new _ _ _)).below hb1 (by simp)).five; have hq := hb1.size)
  all_goals go_ret
  all_goals refine ⟨ret_bool ?_, by first | exact below_drewN ((Below.refl _ _).alloc (Nat.le_refl _) _) _ | exact bl_q hb1⟩
  all_goals try generalize ((v.kids.length : Int) == 0) = bl at *
  all_goals try generalize ((v.kids.length : Int) == 1) = bl at *
  all_goals first
    | (simp [HO.out, *]; done)
    | (simp [HO.out, *]; intro; omega)
    | (simp [HO.out, *]; cases v.s.toList <;> rfl)

set_option maxHeartbeats 4000000 in
theorem specOwn_8 (v : V) (A : Option Addr) (cap : Nat) (w : World) (hk : v.k = 8) (hl : v.kids.length ≤ 1048576) (hat : Vs.at_ w 0 w.heap.size v.kids A) :
    Calls Tryd.prog 90 #[v.agg A cap] w fun e w' => e = .returned (.bool (decide (ownOk v))) ∧ Below w.heap.size w w' := by
  have HO := Lib.hid (own_k8 hk)
  have HA := Lib.hid hat
  clear hat
  unfold V.agg
  go_enter Tryd.func90, Tryd.ntmps90
  go_wp2_with fail
  go_quiet (fail)
  go_wp2_with (go_at_call 103; refine (specPairs v.kids A cap _ hl (at_q HA.out)).mono ?_; rintro e w1 ⟨rfl, hb1⟩)
  all_goals go_ret
  all_goals refine ⟨ret_bool ?_, by first | exact below_drewN ((Below.refl _ _).alloc (Nat.le_refl _) _) _ | exact bl_q hb1⟩
  all_goals try generalize ((v.kids.length : Int) == 0) = bl at *
  all_goals try generalize ((v.kids.length : Int) == 1) = bl at *
  all_goals first
    | (simp [HO.out, *]; done)
    | (simp [HO.out, *]; intro; omega)
    | (simp [HO.out, *]; cases v.s.toList <;> rfl)

set_option maxHeartbeats 4000000 in
theorem specOwn_9 (v : V) (A : Option Addr) (cap : Nat) (w : World) (hk : v.k = 9) (hl : v.kids.length ≤ 1048576) :
    Calls Tryd.prog 90 #[v.agg A cap] w fun e w' => e = .returned (.bool (decide (ownOk v))) ∧ Below w.heap.size w w' := by
  have HO := Lib.hid (own_k9 hk)
  unfold V.agg
  go_enter Tryd.func90, Tryd.ntmps90
  go_wp2_with fail
  go_quiet (fail)
  go_wp2_with (go_at_call 100; go_in)
  all_goals go_ret
  all_goals refine ⟨ret_bool ?_, by first | exact below_drewN ((Below.refl _ _).alloc (Nat.le_refl _) _) _ | exact bl_q hb1⟩
  all_goals try generalize ((v.kids.length : Int) == 0) = bl at *
  all_goals try generalize ((v.kids.length : Int) == 1) = bl at *
  all_goals first
    | (simp [HO.out, *]; done)
    | (simp [HO.out, *]; intro; omega)
    | (simp [HO.out, *]; cases v.s.toList <;> rfl)

set_option maxHeartbeats 4000000 in
theorem specOwn_4 (v : V) (A : Option Addr) (cap : Nat) (w : World) (hk : v.k = 4) (hl : v.kids.length ≤ 1048576) :
    Calls Tryd.prog 90 #[v.agg A cap] w fun e w' => e = .returned (.bool (decide (ownOk v))) ∧ Below w.heap.size w w' := by
  have HO := Lib.hid (own_k4 hk)
  unfold V.agg
  go_enter Tryd.func90, Tryd.ntmps90
  go_wp2_with fail
  go_quiet (fail)
  go_wp2_with (first | (go_at_call 100; go_in) | (go_at_call 101; refine (specWhole v.n v.e _ (by unfold inR; omega) (by omega)).mono ?_; rintro e w1 ⟨rfl, rfl⟩))
  all_goals go_ret
  all_goals refine ⟨ret_bool ?_, below_drewN ((Below.refl _ _).alloc (Nat.le_refl _) _) _⟩
  all_goals first
    | (refine Eq.symm (decide_eq_false (fun h => ?_)); have h := HO.out.1 h; obtain ⟨⟨q1, q2, q3, q4, q5, q6, q7⟩, q8, q9⟩ := h; first | omega | (rw [beq_iff_eq] at q9; simp_all; done) | (simp_all; done))
    | (have hb := dec_bool (n := v.n) (e := v.e) (by omega) (by omega) (by omega) (by omega) (by omega) (by assumption)
       rw [Bool.eq_iff_iff, decide_eq_true_iff, HO.out, ← hb]
       simp [*])

theorem specOwn_else (v : V) (A : Option Addr) (cap : Nat) (w : World) (hk : v.k < 0 ∨ 9 < v.k) :
    Calls Tryd.prog 90 #[v.agg A cap] w fun e w' => e = .returned (.bool (decide (ownOk v))) ∧ Below w.heap.size w w' := by
  have HO := Lib.hid (own_else hk)
  have q0 : (v.k == 0) = false := by rw [beq_eq_false_iff_ne]; omega
  have q1 : (v.k == 1) = false := by rw [beq_eq_false_iff_ne]; omega
  have q2 : (v.k == 2) = false := by rw [beq_eq_false_iff_ne]; omega
  have q3 : (v.k == 3) = false := by rw [beq_eq_false_iff_ne]; omega
  have q4 : (v.k == 4) = false := by rw [beq_eq_false_iff_ne]; omega
  have q5 : (v.k == 5) = false := by rw [beq_eq_false_iff_ne]; omega
  have q6 : (v.k == 6) = false := by rw [beq_eq_false_iff_ne]; omega
  have q7 : (v.k == 7) = false := by rw [beq_eq_false_iff_ne]; omega
  have q8 : (v.k == 8) = false := by rw [beq_eq_false_iff_ne]; omega
  have q9 : (v.k == 9) = false := by rw [beq_eq_false_iff_ne]; omega
  clear hk
  unfold V.agg
  go_enter Tryd.func90, Tryd.ntmps90
  go_wp2_with fail
  go_quiet (fail)
  go_wp2_with fail
  go_ret
  exact ⟨ret_bool (decide_eq_false HO.out).symm, below_drewN ((Below.refl _ _).alloc (Nat.le_refl _) _) _⟩
theorem specOwn (v : V) (A : Option Addr) (cap : Nat) (w : World) (hl : v.kids.length ≤ 1048576) (hs : v.s.size ≤ 1048576) (hat : Vs.at_ w 0 w.heap.size v.kids A) :
    Calls Tryd.prog 90 #[v.agg A cap] w fun e w' => e = .returned (.bool (decide (ownOk v))) ∧ Below w.heap.size w w' := by
  rcases (show v.k = 0 ∨ v.k = 1 ∨ v.k = 2 ∨ v.k = 3 ∨ v.k = 4 ∨ v.k = 5 ∨ v.k = 6 ∨ v.k = 7 ∨ v.k = 8 ∨ v.k = 9 ∨ (v.k < 0 ∨ 9 < v.k) by omega) with h | h | h | h | h | h | h | h | h | h | h
  · exact specOwn_0 v A cap w h hl
  · exact specOwn_1 v A cap w h hl
  · exact specOwn_2 v A cap w h hl
  · exact specOwn_3 v A cap w h hl
  · exact specOwn_4 v A cap w h hl
  · exact specOwn_5 v A cap w h hl hs
  · exact specOwn_6 v A cap w h hl
  · exact specOwn_7 v A cap w h hl
  · exact specOwn_8 v A cap w h hl hat
  · exact specOwn_9 v A cap w h hl
  · exact specOwn_else v A cap w h
end Go.Proofs.YtcjamnfboifjeaaDoor

/-
  ValueOk of the reference.
-/
namespace Go.Proofs.YtcjamnfboifjeaaDoor
open Go.RowKit
set_option linter.unusedVariables false
set_option maxRecDepth 100000

theorem Vs.weight_get {l : List V} (i : Nat) (h : i < l.length) : (l[i]).weight + 1 ≤ Vs.weight l := by
  have h1 := Vs.weight_step l i h
  have h2 := Vs.weight_take l (i + 1)
  omega
theorem V.weight_kids (v : V) : v.s.size ≤ v.weight ∧ v.kids.length ≤ v.weight ∧ Vs.weight v.kids ≤ v.weight := by
  have := V.weight_eq v
  have := Vs.len_le v.kids
  omega
def SpecRightSaid (v : V) : Prop := ∀ (d : Int) (A : Option Addr) (cap : Nat) (w : World), v.weight ≤ 1048576 → -1 ≤ d → d ≤ 12 → Vs.at_ w 0 w.heap.size v.kids A →
    Calls Tryd.prog 64 #[v.agg A cap, .int .i64 d] w fun e w' => e = .returned (.bool (decide (V.right d v))) ∧ Below w.heap.size w w'

set_option maxHeartbeats 2000000 in
theorem specRight_step (v : V) (hk : ∀ i (h : i < v.kids.length), SpecRightSaid v.kids[i]) : SpecRightSaid v := by
  intro d A cap w hw hd1 hd2 hat
  obtain ⟨hw1, hw2, hw3⟩ := V.weight_kids v
  have HE := Lib.hid (V.right_eq d v)
  by_cases hd : d < 0
  · have HN : Hid (¬ V.right d v) := Lib.hid (fun h => by have := (HE.out.1 h).1; omega)
    unfold V.agg
    go_enter Tryd.func64, Tryd.ntmps64
    go_wp2_with fail
    go_ret
    exact ⟨ret_bool (decide_eq_false HN.out).symm, (Below.refl _ _).alloc (Nat.le_refl _) _⟩
  · have hdd : decide (d < 0) = false := decide_eq_false hd
    have hC := fun (i : Nat) (h : i < v.kids.length) (A' : Option Addr) (c : Nat) (w' : World) (h1 : Vs.at_ w' 0 w'.heap.size (v.kids[i]).kids A') => hk i h (d - 1) A' c w' (by have := Vs.weight_get i h; omega) (by omega) (by omega) h1
    have HC := Lib.hid hC
    have HA := Lib.hid hat
    clear hC hk hat
    unfold V.agg
    go_enter Tryd.func64, Tryd.ntmps64
    go_wp2_with fail
    refine (specOwn v A cap _ (by omega) (by omega) (Vs.at_more (Nat.le_refl _) (by simp) _ _ (Vs.at_alloc HA.out (Nat.le_refl _) _))).mono ?_
    rintro e w1 ⟨rfl, hb1⟩
    have B1 := (Blk.new _ _ _).below hb1 (by simp)
    have b1 : Below w.heap.size w w1 := ((Below.refl _ w).alloc (Nat.le_refl _) _).trans (hb1.mono (by simp))
    clear hb1
    by_cases ho : ownOk v
    · rw [show decide (ownOk v) = true from decide_eq_true ho]
      have HO := Lib.hid ho
      clear ho
      go_wp2_with fail
      go_loopw [5] (fun i wr => ∃ j : Nat, j ≤ v.kids.length ∧ i = .int .i64 j ∧ Vs.right (d - 1) (v.kids.take j) ∧ Blk wr w.heap.size 28 #[.int .i64 v.k, .int .i64 v.n, .int .i64 v.e, .string v.s, .slice A v.kids.length cap] ∧ Below w.heap.size w wr) (fun i _ => v.kids.length - (intOf i).toNat)
      case atStart => exact ⟨0, Nat.zero_le _, rfl, by simp [Vs.right], B1, b1⟩
      case round =>
        obtain ⟨j, hj, rfl, hr, B, hb⟩ := hrel
        have HR := Lib.hid hr
        clear hr
        have b4 : wr.cell? ⟨w.heap.size, 4, none⟩ = some (.slice A v.kids.length cap) := B.cell 4
        by_cases hlt : j < v.kids.length
        · obtain ⟨b, off, A', cap', rfl, g1, g2, g3, ⟨c0, c1, c2, c3, c4⟩, g5⟩ := Vs.at_get j hlt (Vs.at_below HA.out hb (Nat.le_refl _))
          go_wp2_with fail
          refine (HC.out j hlt A' cap' _ (Vs.at_more (Nat.le_refl _) hb.size _ _ g5)).mono ?_
          rintro e w2 ⟨rfl, hb2⟩
          have hbw : Below w.heap.size w w2 := hb.trans (hb2.mono hb.size)
          have B' := B.below hb2 B.lt
          clear c0 c1 c2 c3 c4 b4
          by_cases hv : V.right (d - 1) v.kids[j]
          · rw [show decide (V.right (d - 1) v.kids[j]) = true from decide_eq_true hv]
            have HV := Lib.hid (Vs.right_step (d - 1) v.kids j hlt HR.out hv)
            clear hv
            go_wp2_with fail
            go_roundw
            case rel => exact ⟨j + 1, by omega, by go_num, HV.out, B', hbw⟩
            case measure => simp [intOf]; omega
          · rw [show decide (V.right (d - 1) v.kids[j]) = false from decide_eq_false hv]
            have HN : Hid (¬ V.right d v) := Lib.hid (fun h => hv ((Vs.right_iff _ _).1 (HE.out.1 h).2.2 j hlt))
            clear hv
            go_wp2_with fail
            go_ret
            exact ⟨ret_bool (decide_eq_false HN.out).symm, hbw⟩
        · obtain rfl : j = v.kids.length := by omega
          have HY : Hid (V.right d v) := Lib.hid (HE.out.2 ⟨by omega, HO.out, Vs.right_take _ _ HR.out⟩)
          go_wp2_with fail
          go_ret
          exact ⟨ret_bool (decide_eq_true HY.out).symm, hb⟩
    · rw [show decide (ownOk v) = false from decide_eq_false ho]
      have HN : Hid (¬ V.right d v) := Lib.hid (fun h => ho (HE.out.1 h).2.1)
      clear ho
      go_wp2_with fail
      go_ret
      exact ⟨ret_bool (decide_eq_false HN.out).symm, b1⟩
theorem specRight : ∀ v, SpecRightSaid v := V.all specRight_step

set_option maxHeartbeats 2000000 in
theorem specValueOk (v : V) (A : Option Addr) (cap : Nat) (w : World) (hw : v.weight ≤ 1048576) (hat : Vs.at_ w 0 w.heap.size v.kids A) :
    Calls Tryd.prog 22 #[v.agg A cap] w fun e w' => e = .returned (.bool (decide (okV v))) ∧ Below w.heap.size w w' := by
  have HA := Lib.hid hat
  have hn : v.nodes ≤ 1048577 := by have := V.nodes_weight v; omega
  clear hat
  unfold V.agg
  go_enter Tryd.func22, Tryd.ntmps22
  go_wp2_with fail
  refine (specRight v 12 A cap _ hw (by omega) (by omega) (Vs.at_more (Nat.le_refl _) (by simp) _ _ (Vs.at_alloc HA.out (Nat.le_refl _) _))).mono ?_
  rintro e w1 ⟨rfl, hb1⟩
  obtain ⟨p0, p1, p2, p3, p4⟩ := ((Blk.new _ _ _).below hb1 (by simp)).five
  have b1 : Below w.heap.size w w1 := ((Below.refl _ w).alloc (Nat.le_refl _) _).trans (hb1.mono (by simp))
  by_cases hr : V.right 12 v
  · rw [show decide (V.right 12 v) = true from decide_eq_true hr]
    have HK : Hid (decide (okV v) = decide ((v.nodes : Int) ≤ 300)) := Lib.hid (decide_eq_decide.2 ⟨fun h => by have := h.2; omega, fun h => ⟨hr, by omega⟩⟩)
    clear hr hb1
    go_wp2_with fail
    refine (specNodes v A cap _ hn (Vs.at_more (Nat.le_refl _) b1.size _ _ (Vs.at_below HA.out b1 (Nat.le_refl _)))).mono ?_
    rintro e w2 ⟨rfl, hb2⟩
    go_wp2_with fail
    go_ret
    exact ⟨ret_bool HK.out.symm, b1.trans (hb2.mono b1.size)⟩
  · rw [show decide (V.right 12 v) = false from decide_eq_false hr]
    have HK : Hid (decide (okV v) = false) := Lib.hid (decide_eq_false fun h => hr h.1)
    clear hr hb1
    go_wp2_with fail
    go_ret
    exact ⟨ret_bool HK.out.symm, b1⟩
end Go.Proofs.YtcjamnfboifjeaaDoor

/-
  What a call keeps that may write into some blocks alone.
-/
namespace Go.Proofs.YtcjamnfboifjeaaDoor
open Go.RowKit
set_option linter.unusedVariables false
set_option linter.unusedSimpArgs false

/-- Only blocks of D may have changed, and what is D's behind it was D's or is new. -/
structure Keep (D : World → Nat → Prop) (w w' : World) : Prop where
  os : w'.os = w.os
  tape : w'.tape = w.tape
  output : w'.output = w.output
  size : w.heap.size ≤ w'.heap.size
  block : ∀ k, k < w.heap.size → ¬ D w k → w'.heap[k]? = w.heap[k]? ∧ ¬ D w' k
theorem Keep.trans {D : World → Nat → Prop} {a b c : World} (h : Keep D a b) (k : Keep D b c) : Keep D a c :=
  ⟨k.os.trans h.os, k.tape.trans h.tape, k.output.trans h.output, Nat.le_trans h.size k.size, fun i hi hd => by
    obtain ⟨h1, h2⟩ := h.block i hi hd
    obtain ⟨k1, k2⟩ := k.block i (Nat.lt_of_lt_of_le hi h.size) h2
    exact ⟨k1.trans h1, k2⟩⟩
theorem Keep.refl {D : World → Nat → Prop} (w : World) : Keep D w w := ⟨rfl, rfl, rfl, Nat.le_refl _, fun _ _ h => ⟨rfl, h⟩⟩

theorem Keep.below {D : World → Nat → Prop} {w w0 w1 : World} {B : Nat} (h : Keep D w0 w1) (hb : Below B w w0) (hB : B ≤ w0.heap.size) (hd : ∀ k, k < B → ¬ D w0 k) : Below B w w1 :=
  ⟨h.os.trans hb.os, h.tape.trans hb.tape, h.output.trans hb.output, Nat.le_trans hb.size h.size, fun k hk => (h.block k (Nat.lt_of_lt_of_le hk hB) (hd k hk)).1.trans (hb.block k hk)⟩
theorem Keep.at_ {D : World → Nat → Prop} {w w' : World} (h : Keep D w w') {lo hi : Nat} {l : List V} {A : Option Addr} (ha : Vs.at_ w lo hi l A) (hh : hi ≤ w.heap.size) (hd : ∀ k, k < hi → ¬ D w k) : Vs.at_ w' lo hi l A :=
  Vs.at_keep (fun p _ hp => World.cell?_of_block (h.block p.block (by omega) (hd _ hp)).1) _ _ ha
theorem Keep.blk {D : World → Nat → Prop} {w w' : World} (h : Keep D w w') {g : Nat} {t : TypeId} {cs : Array Value} (hb : Blk w g t cs) (hd : ¬ D w g) : Blk w' g t cs ∧ ¬ D w' g :=
  ⟨(h.block g hb.lt hd).1.trans hb, (h.block g hb.lt hd).2⟩

theorem Blk.set1 {w : World} {g : Nat} {t : TypeId} {u : Value} (h : Blk w g t #[u]) (u' : Value) : Blk (w.setCell ⟨g, 0, none⟩ u') g t #[u'] := one_setCell h
/-- A store into the one captured variable. -/
theorem keep_set1 {g : Nat} {w : World} {a : World} (h : Keep (fun _ k => k = g) a w) (u : Value) : Keep (fun _ k => k = g) a (w.setCell ⟨g, 0, none⟩ u) :=
  ⟨h.os, h.tape, h.output, by simpa using h.size, fun k hk hd => ⟨(Below.heap_setCell w ⟨g, 0, none⟩ u k (by simpa using hd)).trans (h.block k hk hd).1, hd⟩⟩
theorem keep_alloc1 {g : Nat} {a w : World} (h : Keep (fun _ k => k = g) a w) (o : Obj) : Keep (fun _ k => k = g) a (w.alloc o) :=
  ⟨h.os, h.tape, h.output, Nat.le_trans h.size (by simp), fun k hk hd => ⟨(Below.heap_alloc w o k (Nat.lt_of_lt_of_le hk h.size)).trans (h.block k hk hd).1, hd⟩⟩
end Go.Proofs.YtcjamnfboifjeaaDoor

/-
  The program's isValue and ValueOk.
-/
namespace Go.Proofs.YtcjamnfboifjeaaDoor
open Go.RowKit
set_option linter.unusedVariables false
set_option maxRecDepth 100000
set_option linter.unusedSimpArgs false

def insV (L : Nat) (d : Int) (l : List V) : Prop := Vs.nodes l ≤ L ∧ Vs.rightI (12 - (d + 1)) l
theorem inV_no1 {d : Int} {v : V} : ¬ inV 0 d v := fun h => by have := h.1; have := V.nodes_pos v; omega
theorem inV_no2 {L : Nat} {d : Int} {v : V} (hd : 12 < d) : ¬ inV L d v := fun h => by have := ((V.rightI_eq _ _).1 h.2).1; omega
theorem inV_no3 {L : Nat} {d : Int} {v : V} (hl : L < v.kids.length + 1) : ¬ inV L d v := fun h => by have := h.1; have := V.nodes_eq v; have := Vs.len_nodes v.kids; omega
theorem inV_no4 {L : Nat} {d : Int} {v : V} (hn : ¬ nodeOk v) : ¬ inV L d v := fun h => hn ((V.rightI_eq _ _).1 h.2).2.1
theorem inV_no5 {L : Nat} {d : Int} {v : V} (hn : ¬ kidsI v) : ¬ inV L d v := fun h => hn ((V.rightI_eq _ _).1 h.2).2.2.1
theorem inV_iff {L : Nat} {d : Int} {v : V} (hL : 1 ≤ L) (hd : d ≤ 12) (hn : nodeOk v) (hk : kidsI v) : inV L d v ↔ insV (L - 1) d v.kids := by
  unfold inV insV
  rw [V.rightI_eq, V.nodes_eq, show 12 - d - 1 = 12 - (d + 1) by omega]
  constructor
  · rintro ⟨h1, _, _, _, h2⟩; exact ⟨by omega, h2⟩
  · rintro ⟨h1, h2⟩; exact ⟨by omega, by omega, hn, hk, h2⟩
theorem insV_step {L : Nat} {d : Int} {l : List V} {j : Nat} (hj : j < l.length) (h : insV L d (l.take j)) (hv : inV (L - Vs.nodes (l.take j)) (d + 1) l[j]) : insV L d (l.take (j + 1)) := by
  have h1 := hv.1
  have h2 := h.1
  exact ⟨by rw [Vs.nodes_step l j hj]; omega, Vs.rightI_step _ l j hj h.2 hv.2⟩
theorem insV_no {L : Nat} {d : Int} {l : List V} {j : Nat} (hj : j < l.length) (hv : ¬ inV (L - Vs.nodes (l.take j)) (d + 1) l[j]) : ¬ insV L d l := fun h => hv ⟨by
    have h1 := h.1
    have h2 := Vs.nodes_step l j hj
    have h3 := Vs.nodes_take l (j + 1)
    omega, (Vs.rightI_iff _ _).1 h.2 j hj⟩
/-- The frame of a value's test: its three new blocks, and the count one less. -/
theorem val_frame {w : World} {p : Nat} {tv ti tp : TypeId} {cs : Array Value} {u u' d q : Value} (hB : Blk w p ti #[u]) :
    ∃ w3, w3 = ((((w.alloc (.cells cs tv)).alloc (.cells #[d] ti)).alloc (.cells #[q] tp)).setCell ⟨p, 0, none⟩ u') ∧ Blk w3 w.heap.size tv cs ∧ Blk w3 (w.heap.size + 1) ti #[d] ∧ Blk w3 (w.heap.size + 1 + 1) tp #[q] ∧ Blk w3 p ti #[u'] ∧ Keep (fun _ k => k = p) w w3 := by
  have hlt := hB.lt
  refine ⟨_, rfl, ?_, ?_, ?_, ?_, ?_⟩
  · exact (Below.heap_setCell _ ⟨p, 0, none⟩ u' _ (by simp; omega)).trans (((Blk.new w _ _).alloc _).alloc _)
  · have h := (Blk.new (w.alloc (.cells cs tv)) ti #[d]).alloc (.cells #[q] tp)
    rw [show (w.alloc (.cells cs tv)).heap.size = w.heap.size + 1 by simp] at h
    exact (Below.heap_setCell _ ⟨p, 0, none⟩ u' _ (by simp; omega)).trans h
  · have h := Blk.new ((w.alloc (.cells cs tv)).alloc (.cells #[d] ti)) tp #[q]
    rw [show ((w.alloc (.cells cs tv)).alloc (.cells #[d] ti)).heap.size = w.heap.size + 1 + 1 by simp] at h
    exact (Below.heap_setCell _ ⟨p, 0, none⟩ u' _ (by simp; omega)).trans h
  · exact (((hB.alloc _).alloc _).alloc _).set1 u'
  · exact keep_set1 (keep_alloc1 (keep_alloc1 (keep_alloc1 (Keep.refl w) _) _) _) u'

def ImplValSaid (v : V) : Prop := ∀ (A : Option Addr) (cap L : Nat) (d : Int) (p : Nat) (W w : World), v.weight ≤ 1048576 → L ≤ 300 → 0 ≤ d → d ≤ 13 → Tabs W → Vs.at_ W 0 W.heap.size v.kids A →
    Below W.heap.size W w → W.heap.size ≤ p → Blk w p 3 #[.int .i64 L] →
    Calls Tryd.prog 63 #[v.agg A cap, .int .i64 d, .pointer (some ⟨p, 0, none⟩)] w fun e w' =>
      e = .returned (.bool (decide (inV L d v))) ∧ (inV L d v → Blk w' p 3 #[.int .i64 ((L - v.nodes : Nat) : Int)]) ∧ Keep (fun _ k => k = p) w w'

set_option maxHeartbeats 1000000 in
theorem implKid (v : V) (hk : ImplValSaid v) (A : Option Addr) (cap L : Nat) (d : Int) (p gd gl : Nat) (W w : World) (hw : v.weight ≤ 1048576) (hL : L ≤ 300) (hd0 : 0 ≤ d) (hd1 : d ≤ 12) (hT : Tabs W) (hat : Vs.at_ W 0 W.heap.size v.kids A)
    (hb : Below W.heap.size W w) (hp : W.heap.size ≤ p) (hB : Blk w p 3 #[.int .i64 L]) (hBd : Blk w gd 3 #[.int .i64 d]) (hBl : Blk w gl 66 #[.pointer (some ⟨p, 0, none⟩)]) :
    Calls Tryd.prog 89 #[v.agg A cap, .pointer (some ⟨gd, 0, none⟩), .pointer (some ⟨gl, 0, none⟩)] w fun e w' =>
      e = .returned (.bool (!decide (inV L (d + 1) v))) ∧ (inV L (d + 1) v → Blk w' p 3 #[.int .i64 ((L - v.nodes : Nat) : Int)]) ∧ Keep (fun _ k => k = p) w w' := by
  have hd := hBd.cell 0
  have hl := hBl.cell 0
  have ld := hBd.lt
  have ll := hBl.lt
  have HC := Lib.hid (fun w' h1 h2 => hk A cap L (d + 1) p W w' hw hL (by omega) (by omega) hT hat h1 hp h2)
  have HB := Lib.hid hB
  have HW := Lib.hid hb
  have hbs := hb.size
  clear hk hT hat hB hBd hBl hb
  unfold V.agg
  unfold V.agg at HC
  go_enter Tryd.func89, Tryd.ntmps89
  go_wp2_with fail
  refine (HC.out _ (HW.out.alloc hbs _) (HB.out.alloc _)).mono ?_
  rintro e w1 ⟨rfl, h1, h2⟩
  have H1 := Lib.hid h1
  have H2 := Lib.hid ((keep_alloc1 (Keep.refl w) _).trans h2)
  clear h1 h2
  go_wp2_with fail
  go_ret
  exact ⟨rfl, H1.out, H2.out⟩

theorem kidEnters : ∀ (args : Array Value) (w : World), (callFunc 89 args).run Tryd.prog w = .ok (.enter 89 args) w :=
  enters_of Tryd.func89 (by kernel_rfl) rfl

/-- What holds behind j kids. -/
def KRel (l : List V) (L : Nat) (d : Int) (p : Nat) (w : World) (j : Nat) (wr : World) : Prop :=
  insV L d (l.take j) ∧ Blk wr p 3 #[.int .i64 ((L - Vs.nodes (l.take j) : Nat) : Int)] ∧ Keep (fun _ k => k = p) w wr

set_option maxHeartbeats 2000000 in
theorem implKids_index (l : List V) (hk : ∀ i (h : i < l.length), ImplValSaid l[i]) (A : Option Addr) (cap L : Nat) (d : Int) (p gd gl : Nat) (W w : World) (hw : Vs.weight l ≤ 1048576) (hL : L ≤ 300) (hd0 : 0 ≤ d) (hd1 : d ≤ 12) (hT : Tabs W) (hat : Vs.at_ W 0 W.heap.size l A)
    (hb : Below W.heap.size W w) (hp : W.heap.size ≤ p) (hB : Blk w p 3 #[.int .i64 L]) (hBd : Blk w gd 3 #[.int .i64 d]) (hBl : Blk w gl 66 #[.pointer (some ⟨p, 0, none⟩)]) (hgd : gd ≠ p) (hgl : gl ≠ p) :
    Calls Tryd.prog 99 #[.slice A l.length cap, .func (Fn.func 89) #[] #[.pointer (some ⟨gd, 0, none⟩), .pointer (some ⟨gl, 0, none⟩)]] w fun e w' =>
      ∃ r : Int, e = .returned (.int .i64 r) ∧ ((insV L d l ∧ r = -1 ∧ Blk w' p 3 #[.int .i64 ((L - Vs.nodes l : Nat) : Int)]) ∨ (¬ insV L d l ∧ 0 ≤ r)) ∧ Keep (fun _ k => k = p) w w' := by
  have hl : l.length ≤ 1048576 := by have := Vs.len_le l; omega
  have HC := Lib.hid (fun (i : Nat) (h : i < l.length) (A' : Option Addr) (c M : Nat) (w' : World) (h0 : M ≤ 300) (h1 : Vs.at_ W 0 W.heap.size (l[i]).kids A') (h2 : Below W.heap.size W w') (h3 : Blk w' p 3 #[.int .i64 M]) (h4 : Blk w' gd 3 #[.int .i64 d]) (h5 : Blk w' gl 66 #[.pointer (some ⟨p, 0, none⟩)]) => implKid l[i] (hk i h) A' c M d p gd gl W w' (by have := Vs.weight_get i h; omega) h0 hd0 hd1 hT h1 h2 hp h3 h4 h5)
  have HA := Lib.hid hat
  have HW := Lib.hid hb
  have hbs := hb.size
  have h0 : KRel l L d p w 0 w := ⟨⟨by simp [Vs.nodes], by simp [Vs.rightI]⟩, by simpa [Vs.nodes] using hB, Keep.refl w⟩
  have H0 := Lib.hid h0
  have HBD := Lib.hid hBd
  have HBL := Lib.hid hBl
  have hE := kidEnters
  clear hk hT hat hB hBd hBl hb h0
  go_enter Tryd.func99, Tryd.ntmps99
  go_wp2_with fail
  go_loopw [8] (fun i wr => ∃ j : Nat, j ≤ l.length ∧ i = .int .i64 j ∧ KRel l L d p w j wr) (fun i _ => l.length - (intOf i).toNat)
  case atStart => exact ⟨0, Nat.zero_le _, rfl, H0.out⟩
  case round =>
    obtain ⟨j, hj, rfl, hr⟩ := hrel
    have HR := Lib.hid hr
    clear hr
    by_cases hlt : j < l.length
    · have hbr : Below W.heap.size W wr := HR.out.2.2.below HW.out hbs (fun k hk => by omega)
      obtain ⟨b, off, A', cap', rfl, g1, g2, g3, ⟨c0, c1, c2, c3, c4⟩, g5⟩ := Vs.at_get j hlt (Vs.at_below HA.out hbr (Nat.le_refl _))
      have hg5 := (Vs.at_get j hlt HA.out)
      obtain ⟨b', off', A'', cap'', e1, _, _, _, ⟨_, _, _, _, d4⟩, g6⟩ := hg5
      injection e1 with e1
      injection e1 with e11 e12
      subst e11 e12
      have hsame : some (Value.slice A'' (l[j]).kids.length cap'') = some (Value.slice A' (l[j]).kids.length cap') := by rw [← d4, ← c4]; exact (hbr.cell g2).symm
      injection hsame with hsame
      injection hsame with hs1 hs2 hs3
      subst hs1
      have G6 := Lib.hid g6
      have HBR := Lib.hid hbr
      clear g5 g6 d4 hbr
      go_wp2_with fail
      refine (HC.out j hlt A'' cap' (L - Vs.nodes (l.take j)) wr (by omega) G6.out HBR.out HR.out.2.1 (HR.out.2.2.blk HBD.out hgd).1 (HR.out.2.2.blk HBL.out hgl).1).mono ?_
      rintro e w1 ⟨rfl, h1, h2⟩
      have H1 := Lib.hid h1
      have H2 := Lib.hid (HR.out.2.2.trans h2)
      clear h1 h2 c0 c1 c2 c3 c4
      by_cases hv : inV (L - Vs.nodes (l.take j)) (d + 1) l[j]
      · have HV := Lib.hid hv
        rw [show decide (inV (L - Vs.nodes (l.take j)) (d + 1) l[j]) = true from decide_eq_true hv]
        have hst : KRel l L d p w (j + 1) w1 := ⟨insV_step hlt HR.out.1 hv, by
          have h := H1.out hv
          rw [Vs.nodes_step l j hlt, ← Nat.sub_sub]
          exact h, H2.out⟩
        have HST := Lib.hid hst
        clear hv hst
        go_wp2_with fail
        go_roundw
        case rel => exact ⟨j + 1, by omega, by go_num, HST.out⟩
        case measure => simp [intOf]; omega
      · rw [show decide (inV (L - Vs.nodes (l.take j)) (d + 1) l[j]) = false from decide_eq_false hv]
        have HN := Lib.hid (insV_no hlt hv)
        clear hv
        go_wp2_with fail
        go_ret
        exact ⟨_, rfl, .inr ⟨HN.out, by omega⟩, H2.out⟩
    · obtain rfl : j = l.length := by omega
      go_wp2_with fail
      go_ret
      have h := HR.out
      unfold KRel at h
      rw [List.take_length] at h
      exact ⟨_, rfl, .inl ⟨h.1, rfl, h.2.1⟩, h.2.2⟩
end Go.Proofs.YtcjamnfboifjeaaDoor

/-
  The program's isValue and ValueOk, whole.
-/
namespace Go.Proofs.YtcjamnfboifjeaaDoor
open Go.RowKit
set_option linter.unusedVariables false
set_option maxRecDepth 100000
set_option linter.unusedSimpArgs false

theorem Keep.drewN {p : Nat} {a w : World} (h : Keep (fun _ k => k = p) a w) (n : Nat) : Keep (fun _ k => k = p) a (w.drewN n) := ⟨h.os, h.tape, h.output, h.size, h.block⟩
theorem keep_below {p : Nat} {a w w' : World} (h : Keep (fun _ k => k = p) a w) (hb : Below w.heap.size w w') : Keep (fun _ k => k = p) a w' :=
  ⟨hb.os.trans h.os, hb.tape.trans h.tape, hb.output.trans h.output, Nat.le_trans h.size hb.size, fun k hk hd => ⟨(hb.block k (Nat.lt_of_lt_of_le hk h.size)).trans (h.block k hk hd).1, hd⟩⟩
set_option maxHeartbeats 8000000 in
theorem implVal_step (v : V) (hk : ∀ i (h : i < v.kids.length), ImplValSaid v.kids[i]) : ImplValSaid v := by
  intro A cap L d p W w hw hL hd0 hd1 hT hat hb hp hB
  obtain ⟨hw1, hw2, hw3⟩ := V.weight_kids v
  have hnn : v.nodes ≤ 1048577 := by have := V.nodes_weight v; omega
  have hlt := hB.lt
  have hbs := hb.size
  have hl : v.kids.length ≤ 1048576 := by omega
  have c0 : ((((w.alloc (.cells #[.int .i64 v.k, .int .i64 v.n, .int .i64 v.e, .string v.s, .slice A v.kids.length cap] 28)).alloc (.cells #[.int .i64 d] 3)).alloc (.cells #[.pointer (some ⟨p, 0, none⟩)] 66))).cell? ⟨p, 0, none⟩ = some (.int .i64 L) := (((hB.alloc _).alloc _).alloc _).cell 0
  have f0 : ((((w.alloc (.cells #[.int .i64 v.k, .int .i64 v.n, .int .i64 v.e, .string v.s, .slice A v.kids.length cap] 28)).alloc (.cells #[.int .i64 d] 3)).alloc (.cells #[.pointer (some ⟨p, 0, none⟩)] 66))).frozen? ⟨p, 0, none⟩ = false := (((hB.alloc _).alloc _).alloc _).frozen 0
  have HB := Lib.hid hB
  have HW := Lib.hid hb
  have HT := Lib.hid hT
  have HA := Lib.hid hat
  have HC := Lib.hid hk
  have HF := Lib.hid (val_frame (w := w) (p := p) (tv := 28) (ti := 3) (tp := 66) (cs := #[.int .i64 v.k, .int .i64 v.n, .int .i64 v.e, .string v.s, .slice A v.kids.length cap]) (u' := .int .i64 ((L : Int) - 1)) (d := .int .i64 d) (q := .pointer (some ⟨p, 0, none⟩)) hB)
  clear hB hb hT hat hk
  unfold V.agg
  go_enter Tryd.func63, Tryd.ntmps63
  go_wp2_with fail
  obtain ⟨w3, hw3, Bv, Bd, Bl, Bp, K3⟩ := HF.out
  rw [← hw3]
  clear hw3 HF c0 f0
  have hbw3 : Below W.heap.size W w3 := K3.below HW.out hbs (fun k hk => by omega)
  have HW3 := Lib.hid hbw3
  have HK3 := Lib.hid K3
  have HBV := Lib.hid Bv
  have HBD := Lib.hid Bd
  have HBL := Lib.hid Bl
  have HBP := Lib.hid Bp
  have hs3 := K3.size
  have lv := Bv.lt
  have ld := Bd.lt
  have ll := Bl.lt
  have lp := Bp.lt
  obtain ⟨p0, p1, p2, p3, p4⟩ := Bv.five
  have q0 := Bd.cell 0
  have q1 := Bl.cell 0
  have q2 := Bp.cell 0
  clear K3 Bv Bd Bl Bp hbw3
  by_cases hL0 : L = 0
  · subst hL0
    have g1 : decide (((0 : Nat) : Int) - 1 < 0) = true := decide_eq_true (by omega)
    go_quiet (fail)
    go_wp2_with fail
    go_ret
    exact ⟨ret_bool (decide_eq_false inV_no1).symm, fun h => absurd h inV_no1, Keep.drewN HK3.out _⟩
  have g1 : decide ((L : Int) - 1 < 0) = false := decide_eq_false (by omega)
  by_cases hd : 12 < d
  · have g2 : decide (12 < d) = true := decide_eq_true hd
    go_quiet (fail)
    go_wp2_with fail
    go_ret
    exact ⟨ret_bool (decide_eq_false (inV_no2 hd)).symm, fun h => absurd h (inV_no2 hd), Keep.drewN HK3.out _⟩
  have g2 : decide (12 < d) = false := decide_eq_false hd
  by_cases hkl : (L : Int) - 1 < v.kids.length
  · have g3 : decide ((L : Int) - 1 < v.kids.length) = true := decide_eq_true hkl
    have HNO : Hid (¬ inV L d v) := Lib.hid (inV_no3 (by omega))
    go_quiet (fail)
    go_wp2_with fail
    go_ret
    exact ⟨ret_bool (decide_eq_false HNO.out).symm, fun h => absurd h HNO.out, Keep.drewN HK3.out _⟩
  have g3 : decide ((L : Int) - 1 < v.kids.length) = false := decide_eq_false hkl
  have keep0 : ∀ w' : World, Below w3.heap.size w3 w' → w'.cell? ⟨w.heap.size, 0, none⟩ = some (.int .i64 v.k) ∧ w'.cell? ⟨w.heap.size, 1, none⟩ = some (.int .i64 v.n) ∧ w'.cell? ⟨w.heap.size, 2, none⟩ = some (.int .i64 v.e) ∧ w'.cell? ⟨w.heap.size, 3, none⟩ = some (.string v.s) ∧ w'.cell? ⟨w.heap.size, 4, none⟩ = some (.slice A v.kids.length cap) ∧ w'.cell? ⟨w.heap.size + 1, 0, none⟩ = some (.int .i64 d) ∧ w'.cell? ⟨w.heap.size + 1 + 1, 0, none⟩ = some (.pointer (some ⟨p, 0, none⟩)) ∧ w'.cell? ⟨p, 0, none⟩ = some (.int .i64 ((L : Int) - 1)) ∧ Below w3.heap.size w3 w' := by
    intro w' hb
    obtain ⟨p0, p1, p2, p3, p4⟩ := (HBV.out.below hb lv).five
    exact ⟨p0, p1, p2, p3, p4, (HBD.out.below hb ld).cell 0, (HBL.out.below hb ll).cell 0, (HBP.out.below hb lp).cell 0, hb⟩
  have KE := Lib.hid keep0
  clear keep0
  have hb3 : Below w3.heap.size w3 w3 := Below.refl _ _
  have hL1 : 1 ≤ L := by omega
  by_cases hnode : nodeOk v
  · by_cases hkids : kidsI v
    · have HI := Lib.hid (inV_iff (L := L) (d := d) hL1 (by omega) hnode hkids)
      have HD1 := Lib.hid (decide_eq_true hnode)
      have HD2 := Lib.hid (decide_eq_true hkids)
      clear hnode hkids
      go_region_held3 (fun w' => w'.cell? ⟨w.heap.size, 0, none⟩ = some (.int .i64 v.k) ∧ w'.cell? ⟨w.heap.size, 1, none⟩ = some (.int .i64 v.n) ∧ w'.cell? ⟨w.heap.size, 2, none⟩ = some (.int .i64 v.e) ∧ w'.cell? ⟨w.heap.size, 3, none⟩ = some (.string v.s) ∧ w'.cell? ⟨w.heap.size, 4, none⟩ = some (.slice A v.kids.length cap) ∧ w'.cell? ⟨w.heap.size + 1, 0, none⟩ = some (.int .i64 d) ∧ w'.cell? ⟨w.heap.size + 1 + 1, 0, none⟩ = some (.pointer (some ⟨p, 0, none⟩)) ∧ w'.cell? ⟨p, 0, none⟩ = some (.int .i64 ((L : Int) - 1)) ∧ Below w3.heap.size w3 w') (first | exact KE.out _ hb6 | exact KE.out _ hb5 | exact KE.out _ hb3.drew | exact KE.out _ hb3)
        (first
        | (have hgate := hb5; clear hgate; go_at_call 87; refine (implKids v A cap w5 hnn (Vs.at_more (Nat.le_refl _) (Nat.le_trans (Nat.le_trans hbs hs3) hb5.size) _ _ (Vs.at_below HA.out (HW3.out.trans (hb5.mono (Nat.le_trans hbs hs3))) (Nat.le_refl _)))).mono ?_; rintro e w6 ⟨rfl, hb6'⟩; have hb6 := hb5.trans (hb6'.mono hb5.size); rw [HD2.out])
        | (go_at_call 86; refine (implNode v A cap w3.drew (by omega) (HT.out.below HW3.out.drew)).mono ?_; rintro e w5 ⟨rfl, hb5'⟩; have hb5 : Below w3.heap.size w3 w5 := hb3.drew.trans hb5'; rw [HD1.out]))
      obtain ⟨p0, p1, p2, p3, p4, q0, q1, q2, _⟩ := KE.out _ hb6
      have hb6W : Below W.heap.size W w6 := HW3.out.trans (hb6.mono (Nat.le_trans hbs hs3))
      have HB6 := Lib.hid hb6
      have HB6W := Lib.hid hb6W
      clear KE hb5 hb5' hb6' hb6 hb6W hb3
      go_wp2_with (go_at_call 88; go_in)
      refine (implKids_index v.kids HC.out A cap (L - 1) d p (w.heap.size + 1) (w.heap.size + 1 + 1) W w6 (by omega) (by omega) hd0 (by omega) HT.out HA.out HB6W.out hp (by have h := HBP.out.below HB6.out lp; rw [show (L : Int) - 1 = ((L - 1 : Nat) : Int) by omega] at h; exact h) (HBD.out.below HB6.out ld) (HBL.out.below HB6.out ll) (by omega) (by omega)).mono ?_
      rintro e w7 ⟨r, rfl, h1, h2⟩
      have HK7 := Lib.hid ((keep_below HK3.out HB6.out).trans h2)
      clear h2
      rcases h1 with ⟨hy, rfl, hblk⟩ | ⟨hn, h0⟩
      · have HY := Lib.hid (HI.out.2 hy)
        have HBK := Lib.hid hblk
        clear hy hblk
        go_wp2_with fail
        go_ret
        exact ⟨ret_bool (decide_eq_true HY.out).symm, fun _ => by
          have h := HBK.out
          rw [show L - 1 - Vs.nodes v.kids = L - v.nodes by rw [V.nodes_eq]; omega] at h
          exact h, HK7.out⟩
      · have HN := Lib.hid (fun h => hn (HI.out.1 h))
        clear hn
        go_wp2_with fail
        go_ret
        exact ⟨ret_bool (decide_eq_false HN.out).symm, fun h => absurd h HN.out, HK7.out⟩
    · have HN := Lib.hid (inV_no5 (L := L) (d := d) hkids)
      have HD1 := Lib.hid (decide_eq_true hnode)
      have HD2 := Lib.hid (decide_eq_false hkids)
      clear hnode hkids
      go_region_held3 (fun w' => w'.cell? ⟨w.heap.size, 0, none⟩ = some (.int .i64 v.k) ∧ w'.cell? ⟨w.heap.size, 1, none⟩ = some (.int .i64 v.n) ∧ w'.cell? ⟨w.heap.size, 2, none⟩ = some (.int .i64 v.e) ∧ w'.cell? ⟨w.heap.size, 3, none⟩ = some (.string v.s) ∧ w'.cell? ⟨w.heap.size, 4, none⟩ = some (.slice A v.kids.length cap) ∧ w'.cell? ⟨w.heap.size + 1, 0, none⟩ = some (.int .i64 d) ∧ w'.cell? ⟨w.heap.size + 1 + 1, 0, none⟩ = some (.pointer (some ⟨p, 0, none⟩)) ∧ w'.cell? ⟨p, 0, none⟩ = some (.int .i64 ((L : Int) - 1)) ∧ Below w3.heap.size w3 w') (first | exact KE.out _ hb6 | exact KE.out _ hb5 | exact KE.out _ hb3.drew | exact KE.out _ hb3)
        (first
        | (have hgate := hb5; clear hgate; go_at_call 87; refine (implKids v A cap w5 hnn (Vs.at_more (Nat.le_refl _) (Nat.le_trans (Nat.le_trans hbs hs3) hb5.size) _ _ (Vs.at_below HA.out (HW3.out.trans (hb5.mono (Nat.le_trans hbs hs3))) (Nat.le_refl _)))).mono ?_; rintro e w6 ⟨rfl, hb6'⟩; have hb6 := hb5.trans (hb6'.mono hb5.size); rw [HD2.out])
        | (go_at_call 86; refine (implNode v A cap w3.drew (by omega) (HT.out.below HW3.out.drew)).mono ?_; rintro e w5 ⟨rfl, hb5'⟩; have hb5 : Below w3.heap.size w3 w5 := hb3.drew.trans hb5'; rw [HD1.out]))
      have HB6 := Lib.hid hb6
      clear KE hb5 hb5' hb6' hb6 hb3
      go_wp2_with fail
      go_ret
      exact ⟨ret_bool (decide_eq_false HN.out).symm, fun h => absurd h HN.out, keep_below HK3.out HB6.out⟩
  · have HN := Lib.hid (inV_no4 (L := L) (d := d) hnode)
    have HD1 := Lib.hid (decide_eq_false hnode)
    clear hnode
    go_region_with (go_at_call 86; refine (implNode v A cap w3.drew (by omega) (HT.out.below HW3.out.drew)).mono ?_; rintro e w5 ⟨rfl, hb5'⟩; have hb5 : Below w3.heap.size w3 w5 := hb3.drew.trans hb5'; rw [HD1.out])
    all_goals
      have HB6 := Lib.hid hb5
      clear KE hb5 hb5' hb3
      go_wp2_with fail
      go_ret
      exact ⟨ret_bool (decide_eq_false HN.out).symm, fun h => absurd h HN.out, keep_below HK3.out HB6.out⟩
theorem implVal : ∀ v, ImplValSaid v := V.all implVal_step

set_option maxHeartbeats 1000000 in
theorem implValueOk (v : V) (A : Option Addr) (cap : Nat) (w : World) (hw : v.weight ≤ 1048576) (hT : Tabs w) (hat : Vs.at_ w 0 w.heap.size v.kids A) :
    Calls Tryd.prog 21 #[v.agg A cap] w fun e w' => e = .returned (.bool (decide (okV v))) ∧ Below w.heap.size w w' := by
  have HC := Lib.hid (fun (p : Nat) (w' : World) h1 (h2 : w.heap.size ≤ p) (h3 : Blk w' p 3 #[.int .i64 ((300 : Nat) : Int)]) => implVal v A cap 300 0 p w w' hw (Nat.le_refl _) (Int.le_refl _) (by omega) hT hat h1 h2 h3)
  have HI := Lib.hid (inV_okV v)
  clear hT hat
  unfold V.agg at HC
  unfold V.agg
  go_enter Tryd.func21, Tryd.ntmps21
  go_wp2_with fail
  have hb : Below w.heap.size w ((w.alloc (.cells #[.int .i64 v.k, .int .i64 v.n, .int .i64 v.e, .string v.s, .slice A v.kids.length cap] 28)).alloc (.cells #[.int .i64 300] 3)) := ((Below.refl _ w).alloc (Nat.le_refl _) _).alloc (by simp) _
  have hB := Blk.new (w.alloc (.cells #[.int .i64 v.k, .int .i64 v.n, .int .i64 v.e, .string v.s, .slice A v.kids.length cap] 28)) 3 #[.int .i64 300]
  refine (HC.out (w.heap.size + 1) _ hb (by omega) (by simpa using hB)).mono ?_
  rintro e w1 ⟨rfl, _, hk⟩
  have hb1 := hk.below hb (by simp; omega) (fun k hk => by omega)
  go_wp2_with fail
  go_ret
  exact ⟨ret_bool (decide_eq_decide.2 HI.out), hb1⟩
end Go.Proofs.YtcjamnfboifjeaaDoor

/-
  impl.Sorted.
-/
namespace Go.Proofs.YtcjamnfboifjeaaDoor
open Go.RowKit
set_option linter.unusedVariables false
set_option linter.unusedSimpArgs false
set_option maxRecDepth 100000

theorem Copied.up {u : V} {w w3 w4 W : World} {A : Option Addr} {c p : Nat} {F : List Nat} (hc : u.kids.length ≤ c) (hl : Vs.lies w4 u.kids A F) (hnd : F.Nodup) (hF : ∀ x ∈ F, w3.heap.size ≤ x) (hb : Below w3.heap.size w3 w4) (h3 : Below w.heap.size w w3)
    (hp : w.heap.size ≤ p) (hp3 : p < w3.heap.size) (hg : Gr p w4 W) : Copied u w (.returned (u.agg A c)) W := by
  have h4 := hb.size
  have h5 := h3.size
  exact ⟨A, c, F, rfl, hc, Vs.lies_same hl ⟨hg.size, fun x hx => hg.block x (lies_lt hl x hx) (fun e => by injection e with e; have := hF x hx; omega)⟩, hnd, fun x hx => by have := hF x hx; omega,
    (h3.trans (hb.mono h3.size)).grown hg (by omega) (fun k hk => by injection hk with hk; omega)⟩
set_option maxHeartbeats 4000000 in
theorem implSorted (v : V) (A : Option Addr) (cap : Nat) (w : World) (hw : v.weight ≤ 1048576) (hT : Tabs w) (hat : Vs.at_ w 0 w.heap.size v.kids A) :
    Calls Tryd.prog 9 #[v.agg A cap] w (Copied (sortV v) w) := by
  have hn : v.nodes ≤ 1048577 := by have := V.nodes_weight v; omega
  have HCO := Lib.hid (fun (W : World) (hb : Below w.heap.size w W) => implValueOk v A cap W hw (hT.below hb) (Vs.at_more (Nat.le_refl _) hb.size _ _ (Vs.at_below hat hb (Nat.le_refl _))))
  have HCS := Lib.hid (fun (W : World) (hb : Below w.heap.size w W) (ho : okV v) => implSorted0 v A cap W hn (fit_right v 12 ho.1) (Vs.at_more (Nat.le_refl _) hb.size _ _ (Vs.at_below hat hb (Nat.le_refl _))))
  have HCW := Lib.hid (fun (W : World) (hb : Below w.heap.size w W) => implOwn v A cap W hn (Vs.at_more (Nat.le_refl _) hb.size _ _ (Vs.at_below hat hb (Nat.le_refl _))))
  clear hat hT hw
  unfold V.agg
  go_enter Tryd.func9, Tryd.ntmps9
  go_wp2_with fail
  obtain ⟨w2, hw2, R0, R1, b0, z0⟩ := two_new w 28 28 #[.int .i64 v.k, .int .i64 v.n, .int .i64 v.e, .string v.s, .slice A v.kids.length cap] #[.int .i64 0, .int .i64 0, .int .i64 0, .string ⟨#[]⟩, .slice none 0 0]
  rw [← hw2]
  clear hw2
  refine (HCO.out w2 b0).mono ?_
  rintro e w3 ⟨rfl, hb3⟩
  have R03 := R0.below hb3 (by omega)
  have R13 := Lib.hid (R1.below hb3 (by omega))
  have b3 := b0.trans (hb3.mono (by omega))
  have hz3 : w.heap.size + 1 < w3.heap.size := R13.out.lt
  obtain ⟨p0, p1, p2, p3, p4⟩ := R03.five
  have HB3 := Lib.hid b3
  clear R0 R1 hb3 b0 z0 HCO b3
  by_cases ho : okV v
  · have HO := Lib.hid ho
    have HV : Hid (sortV v = v.srt) := Lib.hid (if_pos ho)
    rw [decide_eq_true ho]
    clear ho
    go_wp2_with fail
    refine (HCS.out w3 HB3.out HO.out).mono ?_
    rintro e w4 ⟨A', c', F, rfl, hc', hl4, hnd, hF, hb4⟩
    have R14 := Lib.hid (R13.out.below hb4 hz3)
    have HU := Lib.hid (fun (W : World) (hg : Gr (w.heap.size + 1) w4 W) => Copied.up hc' hl4 hnd hF hb4 HB3.out (by omega) hz3 hg)
    clear hl4 hnd hF hb4 hc' p0 p1 p2 p3 p4
    obtain ⟨p0, p1, p2, p3, p4⟩ := R14.out.five
    have f0 := R14.out.frozen 0
    have f1 := R14.out.frozen 1
    have f2 := R14.out.frozen 2
    have f3 := R14.out.frozen 3
    have f4 := R14.out.frozen 4
    unfold V.agg at *
    go_wp2_with fail
    refine bodyPost_ret (v := .agg #[.int .i64 v.srt.k, .int .i64 v.srt.n, .int .i64 v.srt.e, .string v.srt.s, .slice A' v.srt.kids.length c']) (by simp [results, Tryd.results9, go_sem, p0, p1, p2, p3, p4]) rfl ?_
    rw [HV.out]
    exact HU.out _ (by repeat (first | exact Gr.refl _ _ | (refine Gr.trans ?_ (Gr.set _ _ _ _))))
  · have HV : Hid (sortV v = v) := Lib.hid (if_neg ho)
    rw [decide_eq_false ho]
    clear ho
    go_wp2_with fail
    refine (HCW.out w3 HB3.out).mono ?_
    rintro e w4 ⟨A', c', F, rfl, hc', hl4, hnd, hF, hb4⟩
    have R14 := Lib.hid (R13.out.below hb4 hz3)
    have HU := Lib.hid (fun (W : World) (hg : Gr (w.heap.size + 1) w4 W) => Copied.up hc' hl4 hnd hF hb4 HB3.out (by omega) hz3 hg)
    clear hl4 hnd hF hb4 hc' p0 p1 p2 p3 p4
    obtain ⟨p0, p1, p2, p3, p4⟩ := R14.out.five
    have f0 := R14.out.frozen 0
    have f1 := R14.out.frozen 1
    have f2 := R14.out.frozen 2
    have f3 := R14.out.frozen 3
    have f4 := R14.out.frozen 4
    unfold V.agg at *
    go_wp2_with fail
    refine bodyPost_ret (v := .agg #[.int .i64 v.k, .int .i64 v.n, .int .i64 v.e, .string v.s, .slice A' v.kids.length c']) (by simp [results, Tryd.results9, go_sem, p0, p1, p2, p3, p4]) rfl ?_
    rw [HV.out]
    exact HU.out _ (by repeat (first | exact Gr.refl _ _ | (refine Gr.trans ?_ (Gr.set _ _ _ _))))
end Go.Proofs.YtcjamnfboifjeaaDoor

/-
  spec.Sorted.
-/
namespace Go.Proofs.YtcjamnfboifjeaaDoor
open Go.RowKit
set_option linter.unusedVariables false
set_option linter.unusedSimpArgs false
set_option maxRecDepth 100000

set_option maxHeartbeats 4000000 in
theorem specSorted (v : V) (A : Option Addr) (cap : Nat) (w : World) (hw : v.weight ≤ 1048576) (hat : Vs.at_ w 0 w.heap.size v.kids A) :
    Calls Tryd.prog 7 #[v.agg A cap] w (Copied (sortV v) w) := by
  have hn : v.nodes ≤ 1048577 := by have := V.nodes_weight v; omega
  have HCO := Lib.hid (fun (W : World) (hb : Below w.heap.size w W) => specValueOk v A cap W hw (Vs.at_more (Nat.le_refl _) hb.size _ _ (Vs.at_below hat hb (Nat.le_refl _))))
  have HCS := Lib.hid (fun (W : World) (hb : Below w.heap.size w W) (ho : okV v) => specSort0 v A cap W hn (fit_right v 12 ho.1) (Vs.at_more (Nat.le_refl _) hb.size _ _ (Vs.at_below hat hb (Nat.le_refl _))))
  have HCW := Lib.hid (fun (W : World) (hb : Below w.heap.size w W) => specCopy v A cap W hn (Vs.at_more (Nat.le_refl _) hb.size _ _ (Vs.at_below hat hb (Nat.le_refl _))))
  clear hat hw
  unfold V.agg
  go_enter Tryd.func7, Tryd.ntmps7
  go_wp2_with fail
  obtain ⟨w2, hw2, R0, R1, b0, z0⟩ := two_new w 28 28 #[.int .i64 v.k, .int .i64 v.n, .int .i64 v.e, .string v.s, .slice A v.kids.length cap] #[.int .i64 0, .int .i64 0, .int .i64 0, .string ⟨#[]⟩, .slice none 0 0]
  rw [← hw2]
  clear hw2
  refine (HCO.out w2 b0).mono ?_
  rintro e w3 ⟨rfl, hb3⟩
  have R03 := R0.below hb3 (by omega)
  have R13 := Lib.hid (R1.below hb3 (by omega))
  have b3 := b0.trans (hb3.mono (by omega))
  have hz3 : w.heap.size + 1 < w3.heap.size := R13.out.lt
  obtain ⟨p0, p1, p2, p3, p4⟩ := R03.five
  have HB3 := Lib.hid b3
  clear R0 R1 hb3 b0 z0 HCO b3
  by_cases ho : okV v
  · have HO := Lib.hid ho
    have HV : Hid (sortV v = v.srt) := Lib.hid (if_pos ho)
    rw [decide_eq_true ho]
    clear ho
    go_wp2_with fail
    refine (HCS.out w3 HB3.out HO.out).mono ?_
    rintro e w4 ⟨A', c', F, rfl, hc', hl4, hnd, hF, hb4⟩
    have R14 := Lib.hid (R13.out.below hb4 hz3)
    have HU := Lib.hid (fun (W : World) (hg : Gr (w.heap.size + 1) w4 W) => Copied.up hc' hl4 hnd hF hb4 HB3.out (by omega) hz3 hg)
    clear hl4 hnd hF hb4 hc' p0 p1 p2 p3 p4
    obtain ⟨p0, p1, p2, p3, p4⟩ := R14.out.five
    have f0 := R14.out.frozen 0
    have f1 := R14.out.frozen 1
    have f2 := R14.out.frozen 2
    have f3 := R14.out.frozen 3
    have f4 := R14.out.frozen 4
    unfold V.agg at *
    go_wp2_with fail
    refine bodyPost_ret (v := .agg #[.int .i64 v.srt.k, .int .i64 v.srt.n, .int .i64 v.srt.e, .string v.srt.s, .slice A' v.srt.kids.length c']) (by simp [results, Tryd.results7, go_sem, p0, p1, p2, p3, p4]) rfl ?_
    rw [HV.out]
    exact HU.out _ (by repeat (first | exact Gr.refl _ _ | (refine Gr.trans ?_ (Gr.set _ _ _ _))))
  · have HV : Hid (sortV v = v) := Lib.hid (if_neg ho)
    rw [decide_eq_false ho]
    clear ho
    go_wp2_with fail
    refine (HCW.out w3 HB3.out).mono ?_
    rintro e w4 ⟨A', c', F, rfl, hc', hl4, hnd, hF, hb4⟩
    have R14 := Lib.hid (R13.out.below hb4 hz3)
    have HU := Lib.hid (fun (W : World) (hg : Gr (w.heap.size + 1) w4 W) => Copied.up hc' hl4 hnd hF hb4 HB3.out (by omega) hz3 hg)
    clear hl4 hnd hF hb4 hc' p0 p1 p2 p3 p4
    obtain ⟨p0, p1, p2, p3, p4⟩ := R14.out.five
    have f0 := R14.out.frozen 0
    have f1 := R14.out.frozen 1
    have f2 := R14.out.frozen 2
    have f3 := R14.out.frozen 3
    have f4 := R14.out.frozen 4
    unfold V.agg at *
    go_wp2_with fail
    refine bodyPost_ret (v := .agg #[.int .i64 v.k, .int .i64 v.n, .int .i64 v.e, .string v.s, .slice A' v.kids.length c']) (by simp [results, Tryd.results7, go_sem, p0, p1, p2, p3, p4]) rfl ?_
    rw [HV.out]
    exact HU.out _ (by repeat (first | exact Gr.refl _ _ | (refine Gr.trans ?_ (Gr.set _ _ _ _))))
end Go.Proofs.YtcjamnfboifjeaaDoor

/-
  What sorting leaves as it is: the count of the nodes; sorted twice is sorted once.
-/
namespace Go.Proofs.YtcjamnfboifjeaaDoor
open Go.RowKit
set_option linter.unusedVariables false
set_option linter.unusedSimpArgs false

theorem Vs.nodes_sum (l : List V) : Vs.nodes l = (l.map V.nodes).sum := by
  induction l with
  | nil => rfl
  | cons a l ih => simp only [Vs.nodes, List.map_cons, List.sum_cons, ih]
theorem unp_perm {a b : List VP} (h : a.Perm b) : (unp a).Perm (unp b) := by
  induction h with
  | nil => exact List.Perm.refl _
  | cons x _ ih => exact (ih.cons _).cons _
  | swap x y l =>
    show (y.1 :: y.2 :: x.1 :: x.2 :: unp l).Perm (x.1 :: x.2 :: y.1 :: y.2 :: unp l)
    exact (List.perm_append_comm (l₁ := [y.1, y.2]) (l₂ := [x.1, x.2])).append_right (unp l)
  | trans _ _ h1 h2 => exact h1.trans h2
theorem srt_kids (v : V) : v.srt.kids = if v.k = 8 then unp (sortP (prs (v.kids.map V.srt))) else v.kids.map V.srt := by
  rw [V.srt_eq]; rfl
theorem srt_k (v : V) : v.srt.k = v.k := by rw [V.srt_eq]; rfl
theorem srt_perm {v : V} (h : mapFit v) : v.srt.kids.Perm (v.kids.map V.srt) := by
  rw [srt_kids]
  by_cases h8 : v.k = 8
  · rw [if_pos h8]
    have hp := unp_perm (sortP_perm (prs (v.kids.map V.srt)))
    rw [unp_prs (v.kids.map V.srt) (by rw [List.length_map]; exact (h h8).2.1)] at hp
    exact hp
  · rw [if_neg h8]
theorem map_same {f g : V → Nat} {l : List V} (h : ∀ i (hi : i < l.length), f l[i] = g l[i]) : l.map f = l.map g := by
  refine List.map_congr_left fun x hx => ?_
  obtain ⟨i, hi, rfl⟩ := List.getElem_of_mem hx
  exact h i hi
theorem srt_nodes (v : V) : V.fitM v → v.srt.nodes = v.nodes := by
  refine V.all (P := fun v => V.fitM v → v.srt.nodes = v.nodes) (fun v hk h => ?_) v
  have hm := ((V.fitM_eq v).1 h).1
  rw [V.nodes_eq, V.nodes_eq v, Vs.nodes_sum, Vs.nodes_sum v.kids, ((srt_perm hm).map V.nodes).sum_nat, List.map_map]
  congr 2
  exact map_same (f := V.nodes ∘ V.srt) fun i hi => hk i hi (fit_get h i hi)
theorem sortV_nodes (v : V) : (sortV v).nodes = v.nodes := by
  unfold sortV
  by_cases h : okV v
  · rw [if_pos h, srt_nodes v (fit_right v 12 h.1)]
  · rw [if_neg h]
theorem map_unp {f : V → V} : ∀ (Z : List VP), (∀ x ∈ Z, f x.1 = x.1 ∧ f x.2 = x.2) → (unp Z).map f = unp Z
  | [], _ => rfl
  | x :: r, h => by
    have h1 := h x List.mem_cons_self
    simp only [unp, List.map_cons]
    rw [h1.1, h1.2, map_unp r fun y hy => h y (List.mem_cons_of_mem _ hy)]
theorem srt_srt (v : V) : V.fitM v → v.srt.srt = v.srt := by
  refine V.all (P := fun v => V.fitM v → v.srt.srt = v.srt) (fun v hk h => ?_) v
  have hm := ((V.fitM_eq v).1 h).1
  have hkid : ∀ x ∈ v.kids.map V.srt, x.srt = x := fun x hx => by
    obtain ⟨y, hy, rfl⟩ := List.mem_map.1 hx
    obtain ⟨i, hi, rfl⟩ := List.getElem_of_mem hy
    exact hk i hi (fit_get h i hi)
  have e : v.srt = .mk v.k v.n v.e v.s v.srt.kids := by
    have := V.eta v.srt
    rw [V.srt_eq] at this ⊢
    exact this
  by_cases h8 : v.k = 8
  · have hK : v.srt.kids = unp (sortP (prs (v.kids.map V.srt))) := by rw [srt_kids, if_pos h8]
    have hd := hm h8
    have hZ : ∀ x ∈ sortP (prs (v.kids.map V.srt)), x.1.srt = x.1 ∧ x.2.srt = x.2 := fun x hx => by
      have hx2 := (sortP_perm _).mem_iff.1 hx
      obtain ⟨j, hj, rfl⟩ := List.getElem_of_mem hx2
      obtain ⟨a, b, e⟩ := prs_get hj
      rw [e]
      exact ⟨hkid _ (List.getElem_mem a), hkid _ (List.getElem_mem b)⟩
    have hkey : ∀ x ∈ prs v.kids, x.1.srt = x.1 := fun x hx => srt_leaf (hd.2.2.1 x hx).1 (hd.2.2.1 x hx).2
    have huniq : ∀ x ∈ sortP (prs (v.kids.map V.srt)), ∀ y ∈ sortP (prs (v.kids.map V.srt)), V.cmp x.1 y.1 = 0 → x = y := fun x hx y hy hc => by
      have hx2 := (sortP_perm _).mem_iff.1 hx
      have hy2 := (sortP_perm _).mem_iff.1 hy
      rw [prs_srt] at hx2 hy2
      obtain ⟨a, ha, rfl⟩ := List.mem_map.1 hx2
      obtain ⟨b, hb, rfl⟩ := List.mem_map.1 hy2
      have := pw_ne hd.2.2.2.1 a ha b hb (by simpa [hkey a ha, hkey b hb] using hc)
      rw [this]
    have hS : sortP (sortP (prs (v.kids.map V.srt))) = sortP (prs (v.kids.map V.srt)) := (sortP_uniq (List.Perm.refl _) (sortP_pw _) huniq).symm
    rw [V.srt_eq v.srt, srt_k v, if_pos h8, hK, map_unp _ hZ, prs_unp, hS, ← hK]
    rw [e]
    rfl
  · have hK : v.srt.kids = v.kids.map V.srt := by rw [srt_kids, if_neg h8]
    rw [V.srt_eq v.srt, srt_k v, if_neg h8, hK]
    have : (v.kids.map V.srt).map V.srt = v.kids.map V.srt := by
      rw [List.map_map]
      refine List.map_congr_left fun x hx => ?_
      exact hkid _ (List.mem_map_of_mem hx)
    rw [this, ← hK]
    rw [e]
    rfl
theorem sortV_two (v : V) : sortV (sortV v) = sortV v := by
  by_cases h : okV v
  · have e : sortV v = v.srt := if_pos h
    rw [e]
    unfold sortV
    by_cases h2 : okV v.srt
    · rw [if_pos h2, srt_srt v (fit_right v 12 h.1)]
    · rw [if_neg h2]
  · have e : sortV v = v := if_neg h
    rw [e, e]
end Go.Proofs.YtcjamnfboifjeaaDoor

/-
  The library's listed tables, as a row lists them, lie as the contracts ask (by the names that utf8.ValidString reads).
-/
namespace Go.Proofs.YtcjamnfboifjeaaDoor
open Go.RowKit Go.Shelf Go.Lib

theorem accD : (Rows.laid_unicode_utf8_acceptRanges : DataW Unit) = Lib.acceptData := by kernel_rfl
theorem fstD : Rows.laid_unicode_utf8_first = Lib.firstData := Pinned.utf8First_eq
theorem extraU8 : U8Extra Tryd.prog Tryd.laysV196_ren := ⟨by kernel_rfl, by kernel_rfl, by kernel_rfl, by kernel_rfl, by kernel_rfl, by kernel_rfl, by kernel_rfl⟩
theorem tabs_of_laid {l : List (String × DataW Unit)} {W : World} (h : laidMet Tryd.prog l W) (ha : ("unicode/utf8.acceptRanges", Rows.laid_unicode_utf8_acceptRanges) ∈ l) (hf : ("unicode/utf8.first", Rows.laid_unicode_utf8_first) ∈ l) : Tabs W :=
  utf8Tabs_of_readsT (.of196 Tryd.laysV196) extraU8 (fstD ▸ Lib.laidMet.reads h hf) (accD ▸ Lib.laidMet.reads h ha)
end Go.Proofs.YtcjamnfboifjeaaDoor

/-
  A text as a cell; rows of texts.
-/
namespace Go.Proofs.YtcjamnfboifjeaaDoor
open Go.RowKit
set_option linter.unusedVariables false

/-- A text as a cell. -/
def tv (s : ByteArray) : Value := .string s
theorem row_form {w : World} {base : Nat} {e : TypeId} {o : Value} {n : Nat} {xs : List Value} (h : w.ownsRow base e 1 o n xs) : ∃ A c, o = .slice A n c ∧ (0 < n → ∃ g, A = some ⟨g, 0, none⟩) := by
  rcases h.2 with ⟨rfl, rfl⟩ | ⟨g, c, cur, rfl, _⟩
  · exact ⟨none, 0, rfl, fun h => absurd h (by omega)⟩
  · exact ⟨_, _, rfl, fun _ => ⟨g, rfl⟩⟩
theorem row_cell {w : World} {base g c : Nat} {e : TypeId} {l : List ByteArray} (h : w.ownsRow base e 1 (.slice (some ⟨g, 0, none⟩) l.length c) l.length (l.map tv)) (j : Nat) (hj : j < l.length) : w.cell? ⟨g, j, none⟩ = some (.string l[j]) := by
  rw [h.cellAt j (by omega)]
  simp [hj, tv]
end Go.Proofs.YtcjamnfboifjeaaDoor

/-
  The text of a mark; a row of texts in memory.
-/
namespace Go.Proofs.YtcjamnfboifjeaaDoor
open Go.RowKit
set_option linter.unusedVariables false
set_option linter.unusedSimpArgs false

/-- The decimal digits of a number ahead of a text. -/
def digB : Nat → Nat → ByteArray → ByteArray
  | 0, _, out => out
  | f + 1, k, out => if k = 0 then out else digB f (k / 10) (str [byteI (48 + (k : Int) % 10)] ++ out)
theorem digB_more : ∀ (f g k : Nat) (out : ByteArray), k ≤ f → k ≤ g → digB f k out = digB g k out
  | 0, 0, _, _, _, _ => rfl
  | 0, g + 1, k, out, h, _ => by
    obtain rfl : k = 0 := by omega
    simp [digB]
  | f + 1, 0, k, out, _, h => by
    obtain rfl : k = 0 := by omega
    simp [digB]
  | f + 1, g + 1, k, out, h, h' => by
    unfold digB
    by_cases hk : k = 0
    · simp [hk]
    · rw [if_neg hk, if_neg hk]
      exact digB_more f g _ _ (by omega) (by omega)
theorem digB_step (k : Nat) (out : ByteArray) (hk : 0 < k) : digB k k out = digB (k / 10) (k / 10) (str [byteI (48 + (k : Int) % 10)] ++ out) := by
  obtain ⟨f, rfl⟩ : ∃ f, k = f + 1 := ⟨k - 1, by omega⟩
  show (if f + 1 = 0 then _ else digB f ((f + 1) / 10) _) = _
  rw [if_neg (by omega)]
  exact digB_more _ _ _ _ (by omega) (Nat.le_refl _)
/-- The letter m and the digits. -/
def mtext (k : Nat) : ByteArray := ByteArray.mk #[109] ++ digB k k ByteArray.empty

/-- How the digits so far and the rest keep below the number. -/
def DigRel (k j n : Nat) : Prop := 10 ^ n * j ≤ k ∧ n ≤ 9 ∧ k ≤ 100000000
theorem DigRel.next {k j n : Nat} (h : DigRel k j n) (hj : 0 < j) : DigRel k (j / 10) (n + 1) := by
  obtain ⟨h1, h2, h3⟩ := h
  have h4 : 10 ^ (n + 1) * (j / 10) ≤ 10 ^ n * j := by
    rw [Nat.pow_succ, Nat.mul_assoc]
    exact Nat.mul_le_mul_left _ (by omega)
  have h5 : n < 9 := by
    rcases Nat.lt_or_ge n 9 with h | h
    · exact h
    · have h6 : 10 ^ 9 ≤ 10 ^ n := Nat.pow_le_pow_right (by omega) h
      have h7 : 10 ^ n * 1 ≤ 10 ^ n * j := Nat.mul_le_mul_left _ hj
      omega
  exact ⟨by omega, by omega, h3⟩
theorem DigRel.small {k j n : Nat} (h : DigRel k j n) : n ≤ 9 := h.2.1

set_option maxHeartbeats 1000000 in
theorem markText (k : Nat) (w : World) (h0 : 0 < k) (hk : k ≤ 100000000) :
    Calls Tryd.prog 78 #[.int .i64 k] w fun e w' => e = .returned (.string (mtext k)) ∧ Below w.heap.size w w' := by
  have hk0 : k ≠ 0 := by omega
  have hkk : k < 9223372036854775808 := by omega
  have HR := Lib.hid (show DigRel k k 0 from ⟨by omega, by omega, hk⟩)
  clear hk
  have hl := lit1 (P := Tryd.prog) 34 9 5 Tryd.underlying34 Tryd.underlying5 Tryd.underlying9
  go_enter Tryd.func78, Tryd.ntmps78
  go_wp2_with fail
  go_loopw [0, 3] (fun i o wr => ∃ (j : Nat) (t : ByteArray), i = .int .i64 j ∧ o = .string t ∧ DigRel k j t.size ∧ digB j j t = digB k k ByteArray.empty ∧ Below w.heap.size w wr) (fun i _ _ => (intOf i).toNat)
  case atStart => exact ⟨k, ByteArray.empty, rfl, rfl, HR.out, rfl, Below.refl _ _⟩
  case round =>
    obtain ⟨j, t, rfl, rfl, hjt, hd, hb⟩ := hrel
    by_cases hj : 0 < j
    · have hs := digB_step j t hj
      have HS := Lib.hid hs
      have HD := Lib.hid hd
      clear hs hd
      have hsz : (str [byteI (48 + (j : Int) % 10)]).size = 1 := str_len _
      have ht9 := hjt.small
      have HJ := Lib.hid (hjt.next hj)
      have hjk : j < 9223372036854775808 := by
        have h1 : 10 ^ t.size * j ≤ k := hjt.1
        have h2 : 1 * j ≤ 10 ^ t.size * j := Nat.mul_le_mul_right _ (Nat.pow_pos (by omega))
        omega
      clear hjt
      go_wp2_with fail
      go_roundw
      case rel => exact ⟨j / 10, str [byteI (48 + (j : Int) % 10)] ++ t, by go_num, rfl, by rw [ByteArray.size_append, hsz, Nat.add_comm]; exact HJ.out, by rw [← HS.out]; exact HD.out, hb.alloc hb.size _⟩
      case measure => simp [intOf]; omega
    · obtain rfl : j = 0 := by omega
      have ht9 := hjt.small
      have ht : mtext k = ByteArray.mk #[109] ++ t := by unfold mtext; rw [← hd]; rfl
      have HT := Lib.hid ht
      clear ht hd
      go_wp2_with fail
      go_ret
      exact ⟨ret_eq (by rw [HT.out]; rfl), hb⟩

end Go.Proofs.YtcjamnfboifjeaaDoor

/-
  The laws' marks in a tree: markValueS turns a tree whose rows lie apart into the marked tree.
-/
namespace Go.Proofs.YtcjamnfboifjeaaDoor
open Go.RowKit
set_option linter.unusedVariables false
set_option linter.unusedSimpArgs false

mutual
/-- A value marked from k on. -/
def V.mark : V → Nat → V
  | .mk _ _ _ _ ks, k => .mk k ((k + 1 : Nat) : Int) ((k + 2 : Nat) : Int) (mtext (k + 3)) (Vs.mark ks (k + 4))
def Vs.mark : List V → Nat → List V
  | [], _ => []
  | v :: r, k => v.mark k :: Vs.mark r (k + 4 * v.nodes)
end
theorem V.mark_kids (v : V) (k : Nat) : (v.mark k).kids = Vs.mark v.kids (k + 4) := by cases v; simp [V.mark, V.kids]
theorem V.mark_k (v : V) (k : Nat) : (v.mark k).k = (k : Int) := by cases v; simp [V.mark, V.k]
theorem V.mark_n (v : V) (k : Nat) : (v.mark k).n = ((k + 1 : Nat) : Int) := by cases v; simp [V.mark, V.n]
theorem V.mark_e (v : V) (k : Nat) : (v.mark k).e = ((k + 2 : Nat) : Int) := by cases v; simp [V.mark, V.e]
theorem V.mark_s (v : V) (k : Nat) : (v.mark k).s = mtext (k + 3) := by cases v; simp [V.mark, V.s]
theorem Vs.mark_len (l : List V) : ∀ k, (Vs.mark l k).length = l.length := by
  induction l with
  | nil => intro k; simp [Vs.mark]
  | cons v r ih => intro k; simp [Vs.mark, ih]
theorem Vs.mark_snoc (l : List V) (v : V) : ∀ k, Vs.mark (l ++ [v]) k = Vs.mark l k ++ [v.mark (k + 4 * Vs.nodes l)] := by
  induction l with
  | nil => intro k; simp [Vs.mark, Vs.nodes]
  | cons a l ih =>
    intro k
    simp only [List.cons_append, Vs.mark, ih, Vs.nodes]
    rw [show k + 4 * a.nodes + 4 * Vs.nodes l = k + 4 * (a.nodes + Vs.nodes l) by omega]
/-- The first j values marked. -/
def Vs.markTo (l : List V) (k j : Nat) : List V := Vs.mark (l.take j) k ++ l.drop j
theorem Vs.markTo_len (l : List V) (k j : Nat) (h : j ≤ l.length) : (Vs.markTo l k j).length = l.length := by
  unfold Vs.markTo; simp [Vs.mark_len]; omega
theorem Vs.markTo_get (l : List V) (k j : Nat) (h : j < l.length) (h' : j < (Vs.markTo l k j).length) : (Vs.markTo l k j)[j] = l[j] := by
  have hl : (Vs.mark (l.take j) k).length = j := by rw [Vs.mark_len, List.length_take]; omega
  have h2 : (Vs.markTo l k j)[j]? = some l[j] := by
    unfold Vs.markTo
    rw [List.getElem?_append_right (by omega), hl, Nat.sub_self, List.getElem?_drop, Nat.add_zero, List.getElem?_eq_getElem h]
  rw [List.getElem?_eq_getElem h'] at h2
  exact Option.some.inj h2
theorem Vs.markTo_next (l : List V) (k j : Nat) (h : j < l.length) : (Vs.markTo l k j).set j (l[j].mark (k + 4 * Vs.nodes (l.take j))) = Vs.markTo l k (j + 1) := by
  unfold Vs.markTo
  have hl : (Vs.mark (l.take j) k).length = j := by rw [Vs.mark_len, List.length_take]; omega
  rw [List.set_append_right _ _ (by omega), hl, Nat.sub_self, List.drop_eq_getElem_cons h, List.set_cons_zero, List.take_succ_eq_append_getElem h, Vs.mark_snoc]
  simp
theorem Vs.markTo_all (l : List V) (k : Nat) : Vs.markTo l k l.length = Vs.mark l k := by unfold Vs.markTo; simp
theorem Vs.markTo_none (l : List V) (k : Nat) : Vs.markTo l k 0 = l := by unfold Vs.markTo; simp [Vs.mark]

/-- Only blocks of F have changed. -/
structure Touch (F : List Nat) (w w' : World) : Prop where
  os : w'.os = w.os
  tape : w'.tape = w.tape
  output : w'.output = w.output
  size : w.heap.size ≤ w'.heap.size
  block : ∀ c, c < w.heap.size → c ∉ F → w'.heap[c]? = w.heap[c]?
theorem Touch.refl (F : List Nat) (w : World) : Touch F w w := ⟨rfl, rfl, rfl, Nat.le_refl _, fun _ _ _ => rfl⟩
theorem Touch.trans {F : List Nat} {a b c : World} (h : Touch F a b) (k : Touch F b c) : Touch F a c :=
  ⟨k.os.trans h.os, k.tape.trans h.tape, k.output.trans h.output, Nat.le_trans h.size k.size, fun i hi hf => (k.block i (Nat.lt_of_lt_of_le hi h.size) hf).trans (h.block i hi hf)⟩
theorem Touch.more {F G : List Nat} {a b : World} (h : Touch F a b) (hs : ∀ c ∈ F, c ∈ G) : Touch G a b :=
  ⟨h.os, h.tape, h.output, h.size, fun i hi hf => h.block i hi fun h' => hf (hs i h')⟩
theorem Touch.of_below {F : List Nat} {a b : World} (h : Below a.heap.size a b) : Touch F a b := ⟨h.os, h.tape, h.output, h.size, fun i hi _ => h.block i hi⟩
theorem Touch.set {F : List Nat} {a b : World} (h : Touch F a b) {p : Addr} (hp : p.block ∈ F) (u : Value) : Touch F a (b.setCell p u) :=
  ⟨h.os, h.tape, h.output, by simpa using h.size, fun i hi hf => (Below.heap_setCell b p u i (fun e => hf (by rw [e]; exact hp))).trans (h.block i hi hf)⟩

/-- How one value of a row is marked. -/
theorem mark_round {w : World} {b : Nat} {l : List V} {k j : Nat} {G : List Nat} (h : j < l.length) (hc : Vs.cells w b 0 (Vs.markTo l k j) G) :
    ∃ A' cap G1 Gj G2, G = G1 ++ (Gj ++ G2) ∧ CellsAt w b (j * 5) l[j] A' cap ∧ Vs.lies w (l[j]).kids A' Gj ∧
      ∀ w' : World, CellsAt w' b (j * 5) (l[j].mark (k + 4 * Vs.nodes (l.take j))) A' cap → Vs.lies w' (Vs.mark (l[j]).kids (k + 4 * Vs.nodes (l.take j) + 4)) A' Gj →
        (∀ q, (q < j * 5 ∨ j * 5 + 5 ≤ q) → w'.cell? ⟨b, q, none⟩ = w.cell? ⟨b, q, none⟩) → SameIn (G1 ++ G2) w w' → Vs.cells w' b 0 (Vs.markTo l k (j + 1)) G := by
  have hl : j < (Vs.markTo l k j).length := by rw [Vs.markTo_len l k j (Nat.le_of_lt h)]; exact h
  obtain ⟨A', cap, G1, Gj, G2, h1, h2, h3, h4, h5⟩ := Vs.cells_at (Vs.markTo l k j) 0 G j hl hc
  rw [Vs.markTo_get l k j h hl] at h2 h3 h4 h5
  rw [Nat.zero_add] at h3 h5
  refine ⟨A', cap, G1, Gj, G2, h1, h3, V.lies_kids.1 h4, fun w' k1 k2 k3 k4 => ?_⟩
  rw [← Vs.markTo_next l k j h]
  exact h5 w' _ (by rw [V.mark_kids, Vs.mark_len]) k1 (V.lies_kids.2 (by rw [V.mark_kids]; exact k2)) k3 k4
theorem Touch.below {F : List Nat} {w w' : World} (h : Touch F w w') {B : Nat} (hB : B ≤ w.heap.size) (hF : ∀ c ∈ F, B ≤ c) : Below B w w' :=
  ⟨h.os, h.tape, h.output, h.size, fun k hk => h.block k (Nat.lt_of_lt_of_le hk hB) (fun hc => by have := hF k hc; omega)⟩
end Go.Proofs.YtcjamnfboifjeaaDoor

/-
  The laws' marks in a tree: the walk of markValueS and markValue.
-/
namespace Go.Proofs.YtcjamnfboifjeaaDoor
open Go.RowKit
set_option linter.unusedVariables false
set_option linter.unusedSimpArgs false

def MarkSaid (l : List V) : Prop := ∀ (A : Option Addr) (cap k : Nat) (w : World) (F : List Nat), 0 < k → k + 4 * Vs.nodes l ≤ 10000000 → Vs.lies w l A F → F.Nodup →
    Calls Tryd.prog 51 #[.slice A l.length cap, .int .i64 k] w fun e w' => e = .returned (.int .i64 ((k + 4 * Vs.nodes l : Nat) : Int)) ∧ Vs.lies w' (Vs.mark l k) A F ∧ Touch F w w'

/-- What the loop has done behind j values. -/
def MkRel (l : List V) (b : Nat) (G : List Nat) (k : Nat) (w : World) (q i : Value) (wr : World) : Prop :=
  ∃ j : Nat, j ≤ l.length ∧ i = .int .i64 j ∧ q = .int .i64 ((k + 4 * Vs.nodes (l.take j) : Nat) : Int) ∧ b < wr.heap.size ∧ soft wr b ∧ Vs.cells wr b 0 (Vs.markTo l k j) G ∧ Touch (b :: G) w wr

theorem nodes_step (l : List V) (j : Nat) (h : j < l.length) : Vs.nodes (l.take (j + 1)) = Vs.nodes (l.take j) + (l[j]).nodes := by
  rw [List.take_succ_eq_append_getElem h]
  have : ∀ a : List V, ∀ v : V, Vs.nodes (a ++ [v]) = Vs.nodes a + v.nodes := by
    intro a v
    induction a with
    | nil => simp [Vs.nodes]
    | cons x a ih => simp only [List.cons_append, Vs.nodes, ih]; omega
  exact this _ _
theorem nodes_take_le (l : List V) (j : Nat) (h : j < l.length) : Vs.nodes (l.take j) + (l[j]).nodes ≤ Vs.nodes l := by
  have h1 := nodes_step l j h
  have : ∀ (a : List V) (i : Nat), Vs.nodes (a.take i) ≤ Vs.nodes a := by
    intro a
    induction a with
    | nil => intro i; simp
    | cons x a ih =>
      intro i
      cases i with
      | zero => simp [Vs.nodes]
      | succ i => simp only [List.take_succ_cons, Vs.nodes]; have := ih i; omega
  have h2 := this l (j + 1)
  omega

/-- The three numbers of a value, marked. -/
def mark3 (w : World) (b o : Nat) (k : Nat) : World := ((w.setCell ⟨b, o, none⟩ (.int .i64 (k : Int))).setCell ⟨b, o + 1, none⟩ (.int .i64 ((k : Int) + 1))).setCell ⟨b, o + 2, none⟩ (.int .i64 ((k : Int) + 2))
theorem mark3_size (w : World) (b o k : Nat) : (mark3 w b o k).heap.size = w.heap.size := by simp [mark3]
theorem mark3_other {w : World} {b o k : Nat} {p : Addr} (h : p.block ≠ b ∨ p.off < o ∨ o + 3 ≤ p.off) : (mark3 w b o k).cell? p = w.cell? p := by
  unfold mark3
  rw [World.cell?_setCell_other _ _ _ _ (addr_ne (G := b) (q := o + 2) (by omega)), World.cell?_setCell_other _ _ _ _ (addr_ne (G := b) (q := o + 1) (by omega)), World.cell?_setCell_other _ _ _ _ (addr_ne (G := b) (q := o) (by omega))]
theorem mark3_block {w : World} {b o k : Nat} {c : Nat} (h : c ≠ b) : (mark3 w b o k).heap[c]? = w.heap[c]? := by
  unfold mark3
  rw [Below.heap_setCell _ _ _ _ (by exact h), Below.heap_setCell _ _ _ _ (by exact h), Below.heap_setCell _ _ _ _ (by exact h)]
theorem mark3_frozen (w : World) (b o k : Nat) (p : Addr) : (mark3 w b o k).frozen? p = w.frozen? p := by simp [mark3]
theorem mark3_touch {F : List Nat} {a w : World} {b o k : Nat} (h : Touch F a w) (hb : b ∈ F) : Touch F a (mark3 w b o k) := ((h.set hb _).set hb _).set hb _
theorem mark3_at {w : World} {b o k : Nat} {v : V} {A : Option Addr} {c : Nat} (h : CellsAt w b o v A c) :
    (mark3 w b o k).cell? ⟨b, o, none⟩ = some (.int .i64 (k : Int)) ∧ (mark3 w b o k).cell? ⟨b, o + 1, none⟩ = some (.int .i64 ((k : Int) + 1)) ∧ (mark3 w b o k).cell? ⟨b, o + 2, none⟩ = some (.int .i64 ((k : Int) + 2)) := by
  obtain ⟨h0, h1, h2, h3, h4⟩ := h
  have ne : ∀ {a c : Nat}, a ≠ c → (⟨b, a, none⟩ : Addr) ≠ ⟨b, c, none⟩ := fun h e => h (by injection e)
  unfold mark3
  refine ⟨?_, ?_, ?_⟩
  · rw [World.cell?_setCell_other _ _ _ _ (ne (by omega)), World.cell?_setCell_other _ _ _ _ (ne (by omega))]
    exact World.cell?_setCell_same _ _ _ h0
  · rw [World.cell?_setCell_other _ _ _ _ (ne (by omega))]
    exact World.cell?_setCell_same _ _ _ ((World.cell?_setCell_other _ _ _ _ (ne (by omega))).trans h1)
  · exact World.cell?_setCell_same _ _ _ ((World.cell?_setCell_other _ _ _ _ (ne (by omega))).trans ((World.cell?_setCell_other _ _ _ _ (ne (by omega))).trans h2))

/-- The whole round, said of worlds alone. -/
theorem mk_next {l : List V} {b k j cap : Nat} {G G1 Gj G2 : List Nat} {A' : Option Addr} {w wr w1 w6 : World} (hj : j < l.length) (hG : G = G1 ++ (Gj ++ G2)) (hnd : (b :: G).Nodup) (hbl : b < wr.heap.size) (hs : soft wr b)
    (hG0 : ∀ c ∈ G, c < wr.heap.size)
    (hc : CellsAt wr b (j * 5) l[j] A' cap) (ht : Touch (b :: G) w wr)
    (hcont : ∀ w' : World, CellsAt w' b (j * 5) (l[j].mark (k + 4 * Vs.nodes (l.take j))) A' cap → Vs.lies w' (Vs.mark (l[j]).kids (k + 4 * Vs.nodes (l.take j) + 4)) A' Gj →
        (∀ q, (q < j * 5 ∨ j * 5 + 5 ≤ q) → w'.cell? ⟨b, q, none⟩ = wr.cell? ⟨b, q, none⟩) → SameIn (G1 ++ G2) wr w' → Vs.cells w' b 0 (Vs.markTo l k (j + 1)) G)
    (hb1 : Below (mark3 wr b (j * 5) (k + 4 * Vs.nodes (l.take j))).heap.size (mark3 wr b (j * 5) (k + 4 * Vs.nodes (l.take j))) w1)
    (h6 : Vs.lies w6 (Vs.mark (l[j]).kids (k + 4 * Vs.nodes (l.take j) + 4)) A' Gj) (t6 : Touch Gj (w1.setCell ⟨b, j * 5 + 3, none⟩ (.string (mtext (k + 4 * Vs.nodes (l.take j) + 3)))) w6) {q i : Value} (hi : i = .int .i64 ((j : Int) + 1))
    (hq : q = .int .i64 ((k + 4 * Vs.nodes (l.take j) + 4 + 4 * Vs.nodes (l[j]).kids : Nat) : Int)) : MkRel l b G k w q i w6 := by
  subst hi hq
  have hnb : b ∉ G := (List.nodup_cons.1 hnd).1
  have hnG := (List.nodup_cons.1 hnd).2
  have hsz : (mark3 wr b (j * 5) (k + 4 * Vs.nodes (l.take j))).heap.size = wr.heap.size := mark3_size _ _ _ _
  have hw1 : wr.heap.size ≤ w1.heap.size := by rw [← hsz]; exact hb1.size
  have hw6 : w1.heap.size ≤ w6.heap.size := by have := t6.size; simpa using this
  have hbj : b ∉ Gj := fun h => hnb (by rw [hG]; simp [h])
  -- block b of w6
  have hb6 : w6.heap[b]? = (w1.setCell ⟨b, j * 5 + 3, none⟩ (.string (mtext (k + 4 * Vs.nodes (l.take j) + 3)))).heap[b]? := t6.block b (by simp; omega) hbj
  have hb1' : w1.heap[b]? = (mark3 wr b (j * 5) (k + 4 * Vs.nodes (l.take j))).heap[b]? := hb1.block b (by rw [hsz]; exact hbl)
  have cell6 : ∀ o, w6.cell? ⟨b, o, none⟩ = (w1.setCell ⟨b, j * 5 + 3, none⟩ (.string (mtext (k + 4 * Vs.nodes (l.take j) + 3)))).cell? ⟨b, o, none⟩ := fun o => World.cell?_of_block hb6
  have cell1 : ∀ o, w1.cell? ⟨b, o, none⟩ = (mark3 wr b (j * 5) (k + 4 * Vs.nodes (l.take j))).cell? ⟨b, o, none⟩ := fun o => World.cell?_of_block hb1'
  have ne : ∀ {a c : Nat}, a ≠ c → (⟨b, a, none⟩ : Addr) ≠ ⟨b, c, none⟩ := fun h e => h (by injection e)
  obtain ⟨m0, m1, m2⟩ := mark3_at (k := k + 4 * Vs.nodes (l.take j)) hc
  have hcell3 : w1.cell? ⟨b, j * 5 + 3, none⟩ = some (.string l[j].s) := by rw [cell1, mark3_other (.inr (.inr (Nat.le_refl _)))]; exact hc.2.2.2.1
  have fin : Vs.cells w6 b 0 (Vs.markTo l k (j + 1)) G := by
    refine hcont w6 ⟨?_, ?_, ?_, ?_, ?_⟩ h6 ?_ ⟨by omega, ?_⟩
    · rw [cell6, World.cell?_setCell_other _ _ _ _ (ne (by omega)), cell1, m0, V.mark_k]
    · rw [cell6, World.cell?_setCell_other _ _ _ _ (ne (by omega)), cell1, m1, V.mark_n]; rfl
    · rw [cell6, World.cell?_setCell_other _ _ _ _ (ne (by omega)), cell1, m2, V.mark_e]; rfl
    · rw [cell6, V.mark_s]; exact World.cell?_setCell_same _ _ _ hcell3
    · rw [cell6, World.cell?_setCell_other _ _ _ _ (ne (by omega)), cell1, mark3_other (.inr (.inr (by show j * 5 + 3 ≤ j * 5 + 4; omega))), V.mark_kids, Vs.mark_len]; exact hc.2.2.2.2
    · intro o ho
      rw [cell6, World.cell?_setCell_other _ _ _ _ (ne (by omega)), cell1, mark3_other (by rcases ho with ho | ho; exact .inr (.inl ho); exact .inr (.inr (by show j * 5 + 3 ≤ o; omega)))]
    · intro c hcG
      have hcg : c ∈ G := by rw [hG]; simp at hcG ⊢; rcases hcG with h | h <;> simp [h]
      have hcb : c ≠ b := fun e => hnb (e ▸ hcg)
      have hcl := hG0 c hcg
      have hcj : c ∉ Gj := fun h => by
        rw [hG] at hnG
        rcases List.mem_append.1 hcG with h1 | h1
        · exact (List.nodup_append.1 hnG).2.2 c h1 c (List.mem_append.2 (.inl h)) rfl
        · exact (List.nodup_append.1 (List.nodup_append.1 hnG).2.1).2.2 c h c h1 rfl
      rw [t6.block c (by simp; omega) hcj, Below.heap_setCell _ _ _ _ (by exact hcb), hb1.block c (by rw [hsz]; exact hcl), mark3_block hcb]
  refine ⟨j + 1, by omega, by go_num, ?_, by omega, ?_, fin, ?_⟩
  · rw [nodes_step l j hj, V.nodes_eq]
    congr 1
    omega
  · intro o
    have h1 := World.frozen?_of_block (a := ⟨b, o, none⟩) hb6
    rw [h1, World.frozen?_setCell]
    have h2 := World.frozen?_of_block (a := ⟨b, o, none⟩) hb1'
    rw [h2, mark3_frozen]
    exact hs o
  · have h1 := mark3_touch (o := j * 5) (k := k + 4 * Vs.nodes (l.take j)) ht (List.mem_cons_self (a := b) (l := G))
    have h2 := h1.trans (Touch.of_below hb1)
    have h3 := h2.set (p := ⟨b, j * 5 + 3, none⟩) (List.mem_cons_self (a := b) (l := G)) (.string (mtext (k + 4 * Vs.nodes (l.take j) + 3)))
    exact h3.trans (t6.more fun c h => by rw [hG]; simp [h])

set_option maxHeartbeats 2000000 in
theorem mark_step (l : List V) (hk : ∀ i (h : i < l.length), MarkSaid (l[i]).kids) : MarkSaid l := by
  intro A cap k w F hk0 hkn hl hnd
  have hlen := Vs.len_nodes l
  have HC := Lib.hid hk
  clear hk
  rcases hl with ⟨rfl, rfl⟩ | ⟨b, G, rfl, rfl, hbl, hsf, hcs⟩
  · go_enter Tryd.func51, Tryd.ntmps51
    go_wp2_with fail
    go_rounds 1
    go_ret
    exact ⟨rfl, .inl ⟨rfl, rfl⟩, Touch.refl _ _⟩
  · have HCS := Lib.hid (show Vs.cells w b 0 (Vs.markTo l k 0) G by rw [Vs.markTo_none]; exact hcs)
    have HND := Lib.hid hnd
    have HSF := Lib.hid hsf
    clear hcs hnd hsf
    go_enter Tryd.func51, Tryd.ntmps51
    go_wp2_with fail
    go_loopw [1, 5] (fun q i wr => MkRel l b G k w q i wr) (fun _ i _ => l.length - (intOf i).toNat)
    case atStart => exact ⟨0, Nat.zero_le _, rfl, by simp [Vs.nodes], hbl, HSF.out, HCS.out, Touch.refl _ _⟩
    case round =>
      obtain ⟨j, hj, rfl, rfl, hb1, hs1, hc1, ht1⟩ := hrel
      by_cases hlt : j < l.length
      · have hnt := nodes_take_le l j hlt
        rw [V.nodes_eq] at hnt
        have HB0 := Lib.hid (Vs.cells_lt b 0 _ G hc1)
        obtain ⟨A', cap', G1, Gj, G2, hG, hc, hlj, hcont⟩ := mark_round hlt hc1
        have HCELL := Lib.hid hc
        have HNX := Lib.hid (fun w1 w6 q i => mk_next (w1 := w1) (w6 := w6) (q := q) (i := i) hlt hG HND.out hb1 hs1 HB0.out hc ht1 hcont)
        have hGj : ∀ c ∈ Gj, c ∈ G := fun c h => by rw [hG]; simp [h]
        have hnj : Gj.Nodup := by
          have h1 := (List.nodup_cons.1 HND.out).2
          rw [hG] at h1
          exact (List.nodup_append.1 (List.nodup_append.1 h1).2.1).1
        have hbj : b ∉ Gj := fun h => (List.nodup_cons.1 HND.out).1 (hGj b h)
        have HGJ := Lib.hid hGj
        have HNJ := Lib.hid hnj
        have HBJ := Lib.hid hbj
        have HLJ := Lib.hid hlj
        obtain ⟨m, hm⟩ : ∃ m, k + 4 * Vs.nodes (l.take j) = m := ⟨_, rfl⟩
        rw [hm] at HNX ⊢
        have hmb : m + 4 + 4 * Vs.nodes (l[j]).kids ≤ 10000000 := by omega
        obtain ⟨c0, c1, c2, c3, c4⟩ := hc
        have k0 := hs1 (j * 5)
        have k1 := hs1 (j * 5 + 1)
        have k2 := hs1 (j * 5 + 2)
        have hm0 : 0 < m := by omega
        have HM := Lib.hid hm
        have HS1 := Lib.hid hs1
        clear hG hlj hcont hGj hnj hbj hm hs1 hc1 ht1
        go_wp2_with fail
        refine (markText (m + 3) _ (by omega) (by omega)).mono ?_
        rintro e w1 ⟨rfl, hbt⟩
        have hbt' : Below (mark3 wr b (j * 5) m).heap.size (mark3 wr b (j * 5) m) w1 := hbt
        have hsz3 := mark3_size wr b (j * 5) m
        have hblk : ∀ c, c < wr.heap.size → w1.heap[c]? = (mark3 wr b (j * 5) m).heap[c]? := fun c h => hbt'.block c (by rw [hsz3]; exact h)
        have hw1 : wr.heap.size ≤ w1.heap.size := by have := hbt'.size; omega
        have d3 : w1.cell? ⟨b, j * 5 + 3, none⟩ = some (.string l[j].s) := by
          rw [World.cell?_of_block (a := ⟨b, j * 5 + 3, none⟩) (hblk b hb1), mark3_other (.inr (.inr (Nat.le_refl _)))]; exact c3
        have d4 : w1.cell? ⟨b, j * 5 + 4, none⟩ = some (.slice A' (l[j]).kids.length cap') := by
          rw [World.cell?_of_block (a := ⟨b, j * 5 + 4, none⟩) (hblk b hb1), mark3_other (.inr (.inr (by show j * 5 + 3 ≤ j * 5 + 4; omega)))]; exact c4
        have e3 : w1.frozen? ⟨b, j * 5 + 3, none⟩ = false := by
          rw [World.frozen?_of_block (a := ⟨b, j * 5 + 3, none⟩) (hblk b hb1), mark3_frozen]; exact HS1.out _
        have HBT := Lib.hid hbt'
        have HBLK := Lib.hid hblk
        clear c0 c1 c2 c3 c4 k0 k1 k2 hbt hbt' hblk hsz3
        go_wp2_with fail
        have hl5 : Vs.lies (w1.setCell ⟨b, j * 5 + 3, none⟩ (.string (mtext (m + 3)))) (l[j]).kids A' Gj := by
          refine Vs.lies_same HLJ.out ⟨by simpa using hw1, fun c hc => ?_⟩
          have hcb : c ≠ b := fun e => HBJ.out (e ▸ hc)
          rw [Below.heap_setCell _ _ _ _ (by exact hcb), HBLK.out c (HB0.out c (HGJ.out c hc)), mark3_block hcb]
        refine (HC.out j hlt A' cap' (m + 4) _ Gj (by omega) (by omega) hl5 HNJ.out).mono ?_
        rintro e w6 ⟨rfl, hl6, ht6⟩
        have HL6 := Lib.hid hl6
        have HT6 := Lib.hid ht6
        clear hl5 hl6 ht6 d3 d4 e3
        go_wp2_with fail
        go_roundw
        case rel => exact HNX.out w1 w6 _ _ HBT.out HL6.out HT6.out rfl (by go_num)
        case measure => simp [intOf]; omega
      · obtain rfl : j = l.length := by omega
        rw [List.take_length, Vs.markTo_all] at *
        have HT := Lib.hid ht1
        have HCC := Lib.hid hc1
        have HSS := Lib.hid hs1
        clear ht1 hc1 hs1
        go_wp2_with fail
        go_ret
        exact ⟨rfl, .inr ⟨b, G, rfl, rfl, hb1, HSS.out, HCC.out⟩, HT.out⟩
end Go.Proofs.YtcjamnfboifjeaaDoor

/-
  The laws' marks in a tree: they are all put, and whether they are still held.
-/
namespace Go.Proofs.YtcjamnfboifjeaaDoor
open Go.RowKit
set_option linter.unusedVariables false
set_option linter.unusedSimpArgs false

theorem markS_any (l : List V) : MarkSaid l := by
  have h : ∀ v : V, MarkSaid v.kids := V.all (fun v hk => mark_step v.kids hk)
  exact h (.mk 0 0 0 ⟨#[]⟩ l)

set_option maxHeartbeats 1000000 in
theorem markValue_any (v : V) (A : Option Addr) (cap k : Nat) (w : World) (F : List Nat) (hk0 : 0 < k) (hkn : k + 4 * Vs.nodes v.kids ≤ 10000000) (hl : Vs.lies w v.kids A F) (hnd : F.Nodup) :
    Calls Tryd.prog 11 #[v.agg A cap, .int .i64 k] w fun e w' => e = .returned (.int .i64 ((k + 4 * Vs.nodes v.kids : Nat) : Int)) ∧ Vs.lies w' (Vs.mark v.kids k) A F ∧ Touch F w w' := by
  have hlt : ∀ c ∈ F, c < w.heap.size := by
    have h1 : V.lies w (.mk 0 0 0 ⟨#[]⟩ v.kids) A F := V.lies_kids.2 hl
    exact V.lies_lt _ A F h1
  have hA : ∀ o, Vs.lies (w.alloc o) v.kids A F := fun o => Vs.lies_same hl ⟨by simp, fun c hc => Below.heap_alloc w o c (hlt c hc)⟩
  have HA := Lib.hid hA
  have HND := Lib.hid hnd
  clear hA hl hnd hlt
  unfold V.agg
  go_enter Tryd.func11, Tryd.ntmps11
  go_wp2_with fail
  refine (markS_any v.kids A _ k _ F hk0 hkn (HA.out _) HND.out).mono ?_
  rintro e w1 ⟨rfl, hl1, ht1⟩
  have HL := Lib.hid hl1
  have HT := Lib.hid ht1
  clear hl1 ht1
  go_wp2_with fail
  go_ret
  exact ⟨rfl, HL.out, (Touch.of_below ((Below.refl _ w).alloc (Nat.le_refl _) _)).trans HT.out⟩

theorem Vs.mark_get (l : List V) (k j : Nat) (h : j < l.length) : (Vs.mark l k)[j]? = some (l[j].mark (k + 4 * Vs.nodes (l.take j))) := by
  have h1 : Vs.mark l k = Vs.markTo l k l.length := (Vs.markTo_all l k).symm
  have h2 : (l.take (j + 1)) ++ l.drop (j + 1) = l := List.take_append_drop _ _
  have h3 : ∀ (a b : List V) (k : Nat), Vs.mark (a ++ b) k = Vs.mark a k ++ Vs.mark b (k + 4 * Vs.nodes a) := by
    intro a
    induction a with
    | nil => intro b k; simp [Vs.mark, Vs.nodes]
    | cons x a ih =>
      intro b k
      simp only [List.cons_append, Vs.mark, ih, Vs.nodes]
      rw [show k + 4 * x.nodes + 4 * Vs.nodes a = k + 4 * (x.nodes + Vs.nodes a) by omega]
  have h4 : Vs.mark l k = Vs.mark (l.take (j + 1)) k ++ Vs.mark (l.drop (j + 1)) (k + 4 * Vs.nodes (l.take (j + 1))) := by rw [← h3, h2]
  rw [h4, List.take_succ_eq_append_getElem h, Vs.mark_snoc]
  have hl : (Vs.mark (l.take j) k).length = j := by rw [Vs.mark_len, List.length_take]; omega
  rw [List.getElem?_append_left (by simp [hl]), List.getElem?_append_right (by omega), hl, Nat.sub_self]
  rfl

def HeldSaid (l : List V) : Prop := ∀ (A : Option Addr) (cap k : Nat) (w : World) (F : List Nat), 0 < k → k + 4 * Vs.nodes l ≤ 10000000 → Vs.lies w (Vs.mark l k) A F →
    Calls Tryd.prog 52 #[.slice A l.length cap, .int .i64 k] w fun e w' => e = .returned (.int .i64 ((k + 4 * Vs.nodes l : Nat) : Int)) ∧ Below w.heap.size w w'

/-- One marked value of a row. -/
theorem held_cell {w : World} {l : List V} {k j b : Nat} {G : List Nat} (h : Vs.cells w b 0 (Vs.mark l k) G) (hj : j < l.length) :
    ∃ (A' : Option Addr) (cap : Nat) (Gj : List Nat), w.cell? ⟨b, j * 5, none⟩ = some (.int .i64 ((k + 4 * Vs.nodes (l.take j) : Nat) : Int)) ∧ w.cell? ⟨b, j * 5 + 1, none⟩ = some (.int .i64 (((k + 4 * Vs.nodes (l.take j) : Nat) : Int) + 1)) ∧
      w.cell? ⟨b, j * 5 + 2, none⟩ = some (.int .i64 (((k + 4 * Vs.nodes (l.take j) : Nat) : Int) + 2)) ∧ w.cell? ⟨b, j * 5 + 3, none⟩ = some (.string (mtext (k + 4 * Vs.nodes (l.take j) + 3))) ∧
      w.cell? ⟨b, j * 5 + 4, none⟩ = some (.slice A' (l[j]).kids.length cap) ∧ Vs.lies w (Vs.mark (l[j]).kids (k + 4 * Vs.nodes (l.take j) + 4)) A' Gj := by
  have hl : j < (Vs.mark l k).length := by rw [Vs.mark_len]; exact hj
  have hg : (Vs.mark l k)[j] = l[j].mark (k + 4 * Vs.nodes (l.take j)) := by
    have := Vs.mark_get l k j hj
    rw [List.getElem?_eq_getElem hl] at this
    exact Option.some.inj this
  obtain ⟨A', cap, G1, Gj, G2, h1, h2, h3, h4, _⟩ := Vs.cells_at (Vs.mark l k) 0 G j hl h
  rw [hg, Nat.zero_add] at h3
  rw [hg] at h4
  obtain ⟨c0, c1, c2, c3, c4⟩ := h3
  rw [V.mark_k] at c0
  rw [V.mark_n] at c1
  rw [V.mark_e] at c2
  rw [V.mark_s] at c3
  rw [V.mark_kids, Vs.mark_len] at c4
  have h5 := V.lies_kids.1 h4
  rw [V.mark_kids] at h5
  exact ⟨A', cap, Gj, c0, c1, c2, c3, c4, h5⟩

set_option maxHeartbeats 2000000 in
theorem held_step (l : List V) (hk : ∀ i (h : i < l.length), HeldSaid (l[i]).kids) : HeldSaid l := by
  intro A cap k w F hk0 hkn hl
  have hlen := Vs.len_nodes l
  have HC := Lib.hid hk
  have HLT := Lib.hid (lies_lt hl)
  clear hk
  rcases hl with ⟨h0, rfl⟩ | ⟨b, G, rfl, rfl, hbl, hsf, hcs⟩
  · obtain rfl : l = [] := by
      have h1 := congrArg List.length h0
      rw [Vs.mark_len] at h1
      simpa using h1
    go_enter Tryd.func52, Tryd.ntmps52
    go_wp2_with fail
    go_rounds 1
    go_ret
    exact ⟨rfl, Below.refl _ _⟩
  · have HCS := Lib.hid (show Vs.lies w (Vs.mark l k) (some ⟨b, 0, none⟩) (b :: G) from .inr ⟨b, G, rfl, rfl, hbl, hsf, hcs⟩)
    clear hcs hsf
    go_enter Tryd.func52, Tryd.ntmps52
    go_wp2_with fail
    go_loopw [1, 5] (fun q i wr => ∃ j : Nat, j ≤ l.length ∧ i = .int .i64 j ∧ q = .int .i64 ((k + 4 * Vs.nodes (l.take j) : Nat) : Int) ∧ Below w.heap.size w wr) (fun _ i _ => l.length - (intOf i).toNat)
    case atStart => exact ⟨0, Nat.zero_le _, rfl, by simp [Vs.nodes], Below.refl _ _⟩
    case round =>
      obtain ⟨j, hj, rfl, rfl, hb⟩ := hrel
      by_cases hlt : j < l.length
      · have hnt := nodes_take_le l j hlt
        rw [V.nodes_eq] at hnt
        have hst := nodes_step l j hlt
        rw [V.nodes_eq] at hst
        have hlr := lies_below HCS.out hb HLT.out
        have hcr : Vs.cells wr b 0 (Vs.mark l k) G := by
          rcases hlr with ⟨h0, _⟩ | ⟨b', G', e1, e2, _, _, h5⟩
          · have := congrArg List.length h0
            rw [Vs.mark_len, List.length_nil] at this
            omega
          · injection e1 with e1
            injection e1 with e1
            subst e1
            injection e2 with _ e2
            subst e2
            exact h5
        obtain ⟨A', cap', Gj, c0, c1, c2, c3, c4, c5⟩ := held_cell hcr hlt
        have HST := Lib.hid hst
        clear hcr hlr hst
        obtain ⟨m, hm⟩ : ∃ m, k + 4 * Vs.nodes (l.take j) = m := ⟨_, rfl⟩
        rw [hm] at c0 c1 c2 c3 c5 ⊢
        have hmb : m + 4 + 4 * Vs.nodes (l[j]).kids ≤ 10000000 := by omega
        have hm0 : 0 < m := by omega
        have HM := Lib.hid hm
        have HC5 := Lib.hid c5
        have hbw := hb.size
        have hcell : ∀ w', Below wr.heap.size wr w' → w'.cell? ⟨b, j * 5 + 3, none⟩ = some (.string (mtext (m + 3))) ∧ w'.cell? ⟨b, j * 5 + 4, none⟩ = some (.slice A' (l[j]).kids.length cap') := fun w' hb' =>
          ⟨(hb'.cell (p := ⟨b, j * 5 + 3, none⟩) (by show b < _; omega)).trans c3, (hb'.cell (p := ⟨b, j * 5 + 4, none⟩) (by show b < _; omega)).trans c4⟩
        have HCL := Lib.hid hcell
        clear hm c5 hcell
        go_wp2_with fail
        go_region_held3 (fun w' => w'.cell? ⟨b, j * 5 + 3, none⟩ = some (.string (mtext (m + 3)))) (first | exact (HCL.out _ hbt2).1 | exact (HCL.out _ ((Below.refl _ _).drew)).1 | exact (HCL.out _ (Below.refl _ _)).1)
          (first | (go_at_call 78; refine (markText (m + 3) wr.drew (by omega) (by omega)).mono ?_; rintro e w1 ⟨rfl, hbt⟩; have hbt2 : Below wr.heap.size wr w1 := (Below.refl _ _).drew.trans hbt))
        clear c0 c1 c2 c3 c4
        have d4 := (HCL.out _ hbt2).2
        have hbw1 := hb.trans (hbt2.mono hb.size)
        go_wp2_with fail
        refine (HC.out j hlt A' cap' (m + 4) w1 Gj (by omega) (by omega) (lies_below HC5.out hbt2 (lies_lt HC5.out))).mono ?_
        rintro e w6 ⟨rfl, hb6⟩
        have hbw6 := hbw1.trans (hb6.mono hbw1.size)
        clear d4
        go_wp2_with fail
        go_roundw
        case rel => exact ⟨j + 1, by omega, by go_num, by rw [HST.out, ← HM.out]; go_num, hbw6⟩
        case measure => simp [intOf]; omega
      · obtain rfl : j = l.length := by omega
        rw [List.take_length] at *
        go_wp2_with fail
        go_ret
        exact ⟨rfl, hb⟩
theorem heldS_any (l : List V) : HeldSaid l := by
  have h : ∀ v : V, HeldSaid v.kids := V.all (fun v hk => held_step v.kids hk)
  exact h (.mk 0 0 0 ⟨#[]⟩ l)
end Go.Proofs.YtcjamnfboifjeaaDoor

/-
  heldValue; what lies apart from a change.
-/
namespace Go.Proofs.YtcjamnfboifjeaaDoor
open Go.RowKit
set_option linter.unusedVariables false
set_option linter.unusedSimpArgs false

set_option maxHeartbeats 1000000 in
theorem heldValue_any (v : V) (A : Option Addr) (cap k : Nat) (w : World) (F : List Nat) (l : List V) (hll : l.length = v.kids.length) (hk0 : 0 < k) (hkn : k + 4 * Vs.nodes l ≤ 10000000) (hl : Vs.lies w (Vs.mark l k) A F) :
    Calls Tryd.prog 12 #[v.agg A cap, .int .i64 k] w fun e w' => e = .returned (.int .i64 ((k + 4 * Vs.nodes l : Nat) : Int)) ∧ Below w.heap.size w w' := by
  have hA : ∀ o, Vs.lies (w.alloc o) (Vs.mark l k) A F := fun o => Vs.lies_same hl ⟨by simp, fun c hc => Below.heap_alloc w o c (lies_lt hl c hc)⟩
  have HA := Lib.hid hA
  have HLL := Lib.hid hll
  have HS := Lib.hid (heldS_any l A)
  clear hA hl hll
  unfold V.agg
  go_enter Tryd.func12, Tryd.ntmps12
  go_wp2_with fail
  rw [← HLL.out]
  refine (HS.out _ k _ F hk0 hkn (HA.out _)).mono ?_
  rintro e w1 ⟨rfl, hb1⟩
  have hb : Below w.heap.size w w1 := ((Below.refl _ w).alloc (Nat.le_refl _) _).trans (hb1.mono (by simp))
  clear hb1
  go_wp2_with fail
  go_ret
  exact ⟨rfl, hb⟩
theorem lies_touch {w w' : World} {l : List V} {A : Option Addr} {F F' : List Nat} (h : Vs.lies w l A F) (ht : Touch F' w w') (hF : ∀ c ∈ F, c ∉ F') : Vs.lies w' l A F :=
  Vs.lies_same h ⟨ht.size, fun c hc => ht.block c (lies_lt h c hc) (hF c hc)⟩
theorem Blk.touch {w w' : World} {g : Nat} {t : TypeId} {cs : Array Value} {F : List Nat} (h : Blk w g t cs) (ht : Touch F w w') (hF : g ∉ F) : Blk w' g t cs := (ht.block g h.lt hF).trans h
end Go.Proofs.YtcjamnfboifjeaaDoor
