/-
  Keys of the reference and of the program: the texts that are keys of a map, in a row of their own.
-/
import Derived.Test.YtlfiaccpihjldaaTree
import Derived.Test.YtlfiaccpihjldaaMarks
namespace Go.Proofs.Ytlfiaccpihjldaa
open Go.RowKit
set_option linter.unusedVariables false
set_option linter.unusedSimpArgs false

theorem infoStr : (Try.prog.info? 9).map (fun i => (i.zero, i.size, i.bytes)) = some (some (.string ⟨#[]⟩), 1, 16) := by kernel_rfl
theorem one_sv (s : ByteArray) : ∀ u ∈ #[Value.string s].toList, u.oneCell' = true := by
  intro u hu; simp at hu; subst hu; rfl
/-- The key at a place that is twice m, if it is a text. -/
def keyAt (l : List V) (m : Nat) : Option ByteArray := match l[2 * m]? with
  | some x => if x.k = 5 then some x.s else none
  | none => none
/-- The first keys. -/
def keysTo (l : List V) (m : Nat) : List ByteArray := (List.range m).filterMap (keyAt l)
theorem keysTo_len (l : List V) (m : Nat) : (keysTo l m).length ≤ m := by
  unfold keysTo
  exact Nat.le_trans (List.length_filterMap_le _ _) (by simp)
theorem keysTo_yes {l : List V} {m : Nat} (h : 2 * m < l.length) (hk : (l[2 * m]).k = 5) : keysTo l (m + 1) = keysTo l m ++ [(l[2 * m]).s] := by
  unfold keysTo
  rw [List.range_succ, List.filterMap_append]
  simp [keyAt, List.getElem?_eq_getElem h, hk]
theorem keysTo_no {l : List V} {m : Nat} (h : 2 * m < l.length) (hk : ¬ (l[2 * m]).k = 5) : keysTo l (m + 1) = keysTo l m := by
  unfold keysTo
  rw [List.range_succ, List.filterMap_append]
  simp [keyAt, List.getElem?_eq_getElem h, hk]
/-- The keys of a value. -/
def V.keys (v : V) : List ByteArray := if v.k = 8 then keysTo v.kids ((v.kids.length + 1) / 2) else []

theorem keysTo_yes' {l : List V} {m p : Nat} (hp : p = 2 * m) (h : p < l.length) (hk : ((l[p]).k == 5) = true) : keysTo l (m + 1) = keysTo l m ++ [(l[p]).s] := by
  subst hp; exact keysTo_yes h (by simpa using hk)
theorem keysTo_no' {l : List V} {m p : Nat} (hp : p = 2 * m) (h : p < l.length) (hk : ((l[p]).k == 5) = false) : keysTo l (m + 1) = keysTo l m := by
  subst hp; exact keysTo_no h (by simpa using hk)

theorem keys_len (v : V) : v.keys.length ≤ v.kids.length + 1 := by
  unfold V.keys
  split
  · have := keysTo_len v.kids ((v.kids.length + 1) / 2); omega
  · simp

/-- What holds behind m keys. -/
def KRel (v : V) (A : Option Addr) (cap : Nat) (w : World) (o i : Value) (wr : World) : Prop :=
  ∃ p m : Nat, p = 2 * m ∧ p ≤ v.kids.length + 1 ∧ i = .int .i64 p ∧ wr.ownsRow (w.heap.size + 1) 9 1 o (keysTo v.kids m).length ((keysTo v.kids m).map tv) ∧ Blk wr w.heap.size 29 #[.int .i64 v.k, .int .i64 v.n, .int .i64 v.e, .string v.s, .slice A v.kids.length cap] ∧ Below w.heap.size w wr ∧ w.heap.size + 1 ≤ wr.heap.size

set_option maxHeartbeats 2000000 in
theorem specKeys (v : V) (A : Option Addr) (cap : Nat) (w : World) (hn : v.nodes ≤ 1048577) (hat : Vs.at_ w 0 w.heap.size v.kids A) :
    Calls Try.prog 16 #[v.agg A cap] w fun e w' => ∃ o, e = .returned o ∧ w'.ownsRow (w.heap.size + 1) 9 1 o v.keys.length (v.keys.map tv) ∧ Below w.heap.size w w' := by
  rw [V.nodes_eq] at hn
  have hl : v.kids.length ≤ 1048576 := by have := Vs.len_nodes v.kids; omega
  have HA := Lib.hid hat
  clear hat
  unfold V.agg
  by_cases h8 : v.k = 8
  · have HK := Lib.hid (show v.keys = keysTo v.kids ((v.kids.length + 1) / 2) by unfold V.keys; rw [if_pos h8])
    have h8' : (v.k == 8) = true := by simpa using h8
    clear h8
    go_enter Try.func16, Try.ntmps16
    go_wp2_with fail
    go_loopw [3, 4] (fun o i wr => KRel v A cap w o i wr) (fun _ i _ => v.kids.length + 2 - (intOf i).toNat)
    case atStart => exact ⟨0, 0, rfl, by omega, rfl, by have h := own_empty (w.alloc (.cells #[.int .i64 v.k, .int .i64 v.n, .int .i64 v.e, .string v.s, .slice A v.kids.length cap] 29)) 9 1; simp only [World.size_alloc] at h; exact h, (Blk.new w _ _).alloc _, ((Below.refl _ w).alloc (Nat.le_refl _) _).alloc (by simp) _, by simp⟩
    case round =>
      obtain ⟨p, m, hpm, hp, rfl, hown, B, hb, hsz⟩ := hrel
      have HP := Lib.hid hpm
      clear hpm
      have hlen := keysTo_len v.kids m
      have hm2 : m ≤ 1048577 := by have := HP.out; omega
      have b4 : wr.cell? ⟨w.heap.size, 4, none⟩ = some (.slice A v.kids.length cap) := B.cell 4
      have b0 : wr.cell? ⟨w.heap.size, 0, none⟩ = some (.int .i64 v.k) := B.cell 0
      by_cases hlt : p < v.kids.length
      · obtain ⟨g, off, A', cap', rfl, g1, g2, g3, ⟨c0, c1, c2, c3, c4⟩, g5⟩ := Vs.at_get p hlt (Vs.at_below HA.out hb (Nat.le_refl _))
        by_cases hk5 : ((v.kids[p]).k == 5) = true
        · have hy := keysTo_yes' HP.out hlt hk5
          have HY := Lib.hid hy
          clear hy
          have hgs : g < wr.heap.size := by omega
          go_wp2_with (at_builtin; refine wpList_app rfl (.tmp 25) (.tmp 32) 34 rfl (w.heap.size + 1) 9 Try.underlying34 infoStr rfl (by decide) (W := wr) rfl (hown.alloc _) ((Below.refl _ wr).mono hsz |>.alloc hsz _) (Nat.le_trans hsz (by simp)) _ 1 1 _ rfl rfl (cells_new _ _ _) (one_sv _) (by unfold maxLen; omega) (by omega) ?_; intro v' w' hown' hb' hB')
          have B' := B.below hb' (Nat.lt_succ_self _)
          have hbw : Below w.heap.size w w' := hb.trans (hb'.mono (Nat.le_succ _))
          clear c0 c1 c2 c3 c4 b4 b0
          go_wp2_with fail
          go_roundw
          case rel => exact ⟨p + 2, m + 1, by have := HP.out; omega, by omega, by go_num, by rw [HY.out]; simpa [tv] using hown', B', hbw, hB'⟩
          case measure => simp [intOf]; omega
        · have hk5' : ((v.kids[p]).k == 5) = false := by simpa using hk5
          have HY := Lib.hid (keysTo_no' HP.out hlt hk5')
          clear hk5
          go_wp2_with fail
          go_roundw
          case rel => exact ⟨p + 2, m + 1, by have := HP.out; omega, by omega, by go_num, by rw [HY.out]; exact hown, B, hb, hsz⟩
          case measure => simp [intOf]; omega
      · go_wp2_with fail
        go_ret
        refine ⟨_, rfl, ?_, hb⟩
        have hm : m = (v.kids.length + 1) / 2 := by have := HP.out; omega
        rw [HK.out, ← hm]
        exact hown
  · have HK := Lib.hid (show v.keys = [] by unfold V.keys; rw [if_neg h8])
    have h8' : (v.k == 8) = false := by simpa using h8
    clear h8
    go_enter Try.func16, Try.ntmps16
    go_wp2_with fail
    go_loopw [3, 4] (fun o i wr => i = .int .i64 0 ∧ wr.ownsRow (w.heap.size + 1) 9 1 o 0 [] ∧ Blk wr w.heap.size 29 #[.int .i64 v.k, .int .i64 v.n, .int .i64 v.e, .string v.s, .slice A v.kids.length cap] ∧ Below w.heap.size w wr) (fun _ i _ => 1)
    case atStart => exact ⟨rfl, by simpa using own_empty (w.alloc (.cells #[.int .i64 v.k, .int .i64 v.n, .int .i64 v.e, .string v.s, .slice A v.kids.length cap] 29)) 9 1, (Blk.new w _ _).alloc _, ((Below.refl _ w).alloc (Nat.le_refl _) _).alloc (by simp) _⟩
    case round =>
      obtain ⟨rfl, hown, B, hb⟩ := hrel
      have b4 : wr.cell? ⟨w.heap.size, 4, none⟩ = some (.slice A v.kids.length cap) := B.cell 4
      have b0 : wr.cell? ⟨w.heap.size, 0, none⟩ = some (.int .i64 v.k) := B.cell 0
      go_wp2_with fail
      all_goals go_ret
      all_goals exact ⟨_, rfl, by rw [HK.out]; exact hown, hb⟩

set_option maxHeartbeats 2000000 in
theorem implKeys (v : V) (A : Option Addr) (cap : Nat) (w : World) (hn : v.nodes ≤ 1048577) (hat : Vs.at_ w 0 w.heap.size v.kids A) :
    Calls Try.prog 17 #[v.agg A cap] w fun e w' => ∃ o, e = .returned o ∧ w'.ownsRow (w.heap.size + 1) 9 1 o v.keys.length (v.keys.map tv) ∧ Below w.heap.size w w' := by
  rw [V.nodes_eq] at hn
  have hl : v.kids.length ≤ 1048576 := by have := Vs.len_nodes v.kids; omega
  have HA := Lib.hid hat
  clear hat
  unfold V.agg
  by_cases h8 : v.k = 8
  · have HK := Lib.hid (show v.keys = keysTo v.kids ((v.kids.length + 1) / 2) by unfold V.keys; rw [if_pos h8])
    have h8' : (v.k == 8) = true := by simpa using h8
    clear h8
    go_enter Try.func17, Try.ntmps17
    go_wp2_with fail
    go_loopw [3, 4] (fun o i wr => KRel v A cap w o i wr) (fun _ i _ => v.kids.length + 2 - (intOf i).toNat)
    case atStart => exact ⟨0, 0, rfl, by omega, rfl, by have h := own_empty (w.alloc (.cells #[.int .i64 v.k, .int .i64 v.n, .int .i64 v.e, .string v.s, .slice A v.kids.length cap] 29)) 9 1; simp only [World.size_alloc] at h; exact h, (Blk.new w _ _).alloc _, ((Below.refl _ w).alloc (Nat.le_refl _) _).alloc (by simp) _, by simp⟩
    case round =>
      obtain ⟨p, m, hpm, hp, rfl, hown, B, hb, hsz⟩ := hrel
      have HP := Lib.hid hpm
      clear hpm
      have hlen := keysTo_len v.kids m
      have hm2 : m ≤ 1048577 := by have := HP.out; omega
      have b4 : wr.cell? ⟨w.heap.size, 4, none⟩ = some (.slice A v.kids.length cap) := B.cell 4
      have b0 : wr.cell? ⟨w.heap.size, 0, none⟩ = some (.int .i64 v.k) := B.cell 0
      by_cases hlt : p < v.kids.length
      · obtain ⟨g, off, A', cap', rfl, g1, g2, g3, ⟨c0, c1, c2, c3, c4⟩, g5⟩ := Vs.at_get p hlt (Vs.at_below HA.out hb (Nat.le_refl _))
        by_cases hk5 : ((v.kids[p]).k == 5) = true
        · have hy := keysTo_yes' HP.out hlt hk5
          have HY := Lib.hid hy
          clear hy
          have hgs : g < wr.heap.size := by omega
          go_wp2_with (at_builtin; refine wpList_app rfl (.tmp 25) (.tmp 32) 34 rfl (w.heap.size + 1) 9 Try.underlying34 infoStr rfl (by decide) (W := wr) rfl (hown.alloc _) ((Below.refl _ wr).mono hsz |>.alloc hsz _) (Nat.le_trans hsz (by simp)) _ 1 1 _ rfl rfl (cells_new _ _ _) (one_sv _) (by unfold maxLen; omega) (by omega) ?_; intro v' w' hown' hb' hB')
          have B' := B.below hb' (Nat.lt_succ_self _)
          have hbw : Below w.heap.size w w' := hb.trans (hb'.mono (Nat.le_succ _))
          clear c0 c1 c2 c3 c4 b4 b0
          go_wp2_with fail
          go_roundw
          case rel => exact ⟨p + 2, m + 1, by have := HP.out; omega, by omega, by go_num, by rw [HY.out]; simpa [tv] using hown', B', hbw, hB'⟩
          case measure => simp [intOf]; omega
        · have hk5' : ((v.kids[p]).k == 5) = false := by simpa using hk5
          have HY := Lib.hid (keysTo_no' HP.out hlt hk5')
          clear hk5
          go_wp2_with fail
          go_roundw
          case rel => exact ⟨p + 2, m + 1, by have := HP.out; omega, by omega, by go_num, by rw [HY.out]; exact hown, B, hb, hsz⟩
          case measure => simp [intOf]; omega
      · go_wp2_with fail
        go_ret
        refine ⟨_, rfl, ?_, hb⟩
        have hm : m = (v.kids.length + 1) / 2 := by have := HP.out; omega
        rw [HK.out, ← hm]
        exact hown
  · have HK := Lib.hid (show v.keys = [] by unfold V.keys; rw [if_neg h8])
    have h8' : (v.k == 8) = false := by simpa using h8
    clear h8
    go_enter Try.func17, Try.ntmps17
    go_wp2_with fail
    go_loopw [3, 4] (fun o i wr => i = .int .i64 0 ∧ wr.ownsRow (w.heap.size + 1) 9 1 o 0 [] ∧ Blk wr w.heap.size 29 #[.int .i64 v.k, .int .i64 v.n, .int .i64 v.e, .string v.s, .slice A v.kids.length cap] ∧ Below w.heap.size w wr) (fun _ i _ => 1)
    case atStart => exact ⟨rfl, by simpa using own_empty (w.alloc (.cells #[.int .i64 v.k, .int .i64 v.n, .int .i64 v.e, .string v.s, .slice A v.kids.length cap] 29)) 9 1, (Blk.new w _ _).alloc _, ((Below.refl _ w).alloc (Nat.le_refl _) _).alloc (by simp) _⟩
    case round =>
      obtain ⟨rfl, hown, B, hb⟩ := hrel
      have b4 : wr.cell? ⟨w.heap.size, 4, none⟩ = some (.slice A v.kids.length cap) := B.cell 4
      have b0 : wr.cell? ⟨w.heap.size, 0, none⟩ = some (.int .i64 v.k) := B.cell 0
      go_wp2_with fail
      all_goals go_ret
      all_goals exact ⟨_, rfl, by rw [HK.out]; exact hown, hb⟩
end Go.Proofs.Ytlfiaccpihjldaa
