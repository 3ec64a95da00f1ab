/-
  Field of the reference and of the program hand back the same copy.
-/
import Derived.Test.YtlfiaccpihjldaaField
namespace Go.Proofs.Ytlfiaccpihjldaa
open Go.RowKit
set_option linter.unusedVariables false
set_option linter.unusedSimpArgs false

/-- The value of no value. -/
def V.zero : V := .mk 0 0 0 ⟨#[]⟩ []
/-- The value at a key. -/
def fieldV (v : V) (key : ByteArray) : Option V := if v.k = 8 then (keyIdx v.kids key).bind fun m => v.kids[2 * m + 1]? else none
def fieldD (v : V) (key : ByteArray) : V := (fieldV v key).getD V.zero
def fieldB (v : V) (key : ByteArray) : Bool := (fieldV v key).isSome
theorem keyIdx_lt {l : List V} {key : ByteArray} {m : Nat} (h : keyIdx l key = some m) : 2 * m + 1 < l.length := by
  unfold keyIdx at h
  rw [List.find?_range_eq_some] at h
  have := List.mem_range.1 h.2.1
  omega
theorem field_cases (v : V) (key : ByteArray) : ((v.k == 8) = false ∧ fieldV v key = none) ∨ ((v.k == 8) = true ∧ keyPos v.kids key = -1 ∧ fieldV v key = none) ∨
    ((v.k == 8) = true ∧ ∃ (p : Nat) (h : p + 1 < v.kids.length), keyPos v.kids key = (p : Int) ∧ fieldV v key = some v.kids[p + 1]) := by
  by_cases h8 : v.k = 8
  · refine .inr ?_
    have h8' : (v.k == 8) = true := by simpa using h8
    cases hi : keyIdx v.kids key with
    | none => exact .inl ⟨h8', by rw [keyPos, hi], by rw [fieldV, if_pos h8, hi]; rfl⟩
    | some m =>
      have hm := keyIdx_lt hi
      refine .inr ⟨h8', 2 * m, hm, by rw [keyPos, hi]; rfl, ?_⟩
      rw [fieldV, if_pos h8, hi, Option.bind_some, List.getElem?_eq_getElem hm]
  · exact .inl ⟨by simpa using h8, by rw [fieldV, if_neg h8]⟩
theorem fieldD_nodes (v : V) (key : ByteArray) : (fieldD v key).nodes ≤ v.nodes := by
  have h1 := V.nodes_pos v
  have hz : V.zero.nodes = 1 := by rw [V.nodes_eq]; rfl
  unfold fieldD
  rcases field_cases v key with ⟨_, h⟩ | ⟨_, _, h⟩ | ⟨_, p, hp, _, h⟩
  · rw [h]; simp only [Option.getD_none]; omega
  · rw [h]; simp only [Option.getD_none]; omega
  · rw [h]
    have := Vs.nodes_get (p + 1) hp
    have := V.nodes_eq v
    simp only [Option.getD_some]
    omega
/-- What Field hands back. -/
def FieldRet (v : V) (key : ByteArray) (w : World) (e : Ending) (w' : World) : Prop :=
  ∃ A c F, e = .returned (.tuple #[(fieldD v key).agg A c, .bool (fieldB v key)]) ∧ (fieldD v key).kids.length ≤ c ∧ Vs.lies w' (fieldD v key).kids A F ∧ F.Nodup ∧ (∀ x ∈ F, w.heap.size ≤ x) ∧ Below w.heap.size w w'
theorem field_ret_no {v : V} {key : ByteArray} {w w' : World} (h : fieldV v key = none) (hb : Below w.heap.size w w') : FieldRet v key w (.returned (.tuple #[.agg #[.int .i64 0, .int .i64 0, .int .i64 0, .string ⟨#[]⟩, .slice none 0 0], .bool false])) w' := by
  have e1 : fieldD v key = V.zero := by rw [fieldD, h]; rfl
  have e2 : fieldB v key = false := by rw [fieldB, h]; rfl
  unfold FieldRet
  rw [e1, e2]
  exact ⟨none, 0, [], rfl, Nat.le_refl _, .inl ⟨rfl, rfl⟩, List.nodup_nil, (fun x hx => by cases hx), hb⟩

set_option maxHeartbeats 1000000 in
theorem specField (v : V) (key : ByteArray) (A : Option Addr) (cap : Nat) (w : World) (hn : v.nodes ≤ 1048577) (hat : Vs.at_ w 0 w.heap.size v.kids A) :
    Calls Try.prog 26 #[v.agg A cap, .string key] w (FieldRet v key w) := by
  rw [V.nodes_eq] at hn
  have hl : v.kids.length ≤ 1048576 := by have := Vs.len_nodes v.kids; omega
  have HA := Lib.hid hat
  clear hat
  have hb2 : ∀ o1 o2 : Obj, Below w.heap.size w ((w.alloc o1).alloc o2) := fun o1 o2 => ((Below.refl _ w).alloc (Nat.le_refl _) _).alloc (by simp) _
  have HB2 := Lib.hid hb2
  clear hb2
  rcases field_cases v key with ⟨h8, hv⟩ | ⟨h8, hp, hv⟩ | ⟨h8, p, hlt, hp, hv⟩
  · have HV := Lib.hid hv
    have h8' : (v.k != 8) = true := by rw [bne, h8]; rfl
    clear hv
    unfold V.agg
    go_enter Try.func26, Try.ntmps26
    go_wp2_with fail
    refine (specKey v.kids key A _ _ hl (Vs.at_more (Nat.le_refl _) (HB2.out _ _).size _ _ (Vs.at_below HA.out (HB2.out _ _) (Nat.le_refl _)))).mono ?_
    rintro e w1 ⟨rfl, rfl⟩
    go_wp2_with fail
    refine bodyPost_ret (v := .tuple #[.agg #[.int .i64 0, .int .i64 0, .int .i64 0, .string ⟨#[]⟩, .slice none 0 0], .bool false]) (by simp [results, Try.results26, go_sem]) rfl (field_ret_no HV.out ?_)
    repeat (refine Below.setCell ?_ (by simp; try omega) _)
    exact HB2.out _ _
  · have HV := Lib.hid hv
    have HP := Lib.hid hp
    have h8' : (v.k != 8) = false := by rw [bne, h8]; rfl
    clear hv hp
    unfold V.agg
    go_enter Try.func26, Try.ntmps26
    go_wp2_with fail
    refine (specKey v.kids key A _ _ hl (Vs.at_more (Nat.le_refl _) (HB2.out _ _).size _ _ (Vs.at_below HA.out (HB2.out _ _) (Nat.le_refl _)))).mono ?_
    rintro e w1 ⟨rfl, rfl⟩
    rw [HP.out]
    go_wp2_with fail
    refine bodyPost_ret (v := .tuple #[.agg #[.int .i64 0, .int .i64 0, .int .i64 0, .string ⟨#[]⟩, .slice none 0 0], .bool false]) (by simp [results, Try.results26, go_sem]) rfl (field_ret_no HV.out ?_)
    repeat (refine Below.setCell ?_ (by simp; try omega) _)
    exact HB2.out _ _
  · have HV := Lib.hid hv
    have HP := Lib.hid hp
    have h8' : (v.k != 8) = false := by rw [bne, h8]; rfl
    clear hv hp
    unfold V.agg
    go_enter Try.func26, Try.ntmps26
    go_wp2_with fail
    obtain ⟨w2, hw2⟩ : ∃ w2, w2 = (w.alloc (.cells #[.int .i64 v.k, .int .i64 v.n, .int .i64 v.e, .string v.s, .slice A v.kids.length cap] 29)).alloc (.cells #[.int .i64 0, .int .i64 0, .int .i64 0, .string ⟨#[]⟩, .slice none 0 0] 29) := ⟨_, rfl⟩
    have B1 : Blk w2 (w.heap.size + 1) 29 #[.int .i64 0, .int .i64 0, .int .i64 0, .string ⟨#[]⟩, .slice none 0 0] := by
      have h := Blk.new (w.alloc (.cells #[.int .i64 v.k, .int .i64 v.n, .int .i64 v.e, .string v.s, .slice A v.kids.length cap] 29)) 29 #[.int .i64 0, .int .i64 0, .int .i64 0, .string ⟨#[]⟩, .slice none 0 0]
      rw [← hw2] at h
      simpa using h
    have B0 : Blk w2 w.heap.size 29 #[.int .i64 v.k, .int .i64 v.n, .int .i64 v.e, .string v.s, .slice A v.kids.length cap] := by rw [hw2]; exact (Blk.new w _ _).alloc _
    have z2 : w2.heap.size = w.heap.size + 2 := by rw [hw2]; simp
    have b2 : Below w.heap.size w w2 := by rw [hw2]; exact HB2.out _ _
    obtain ⟨p0, p1, p2, p3, p4⟩ := B0.five
    obtain ⟨b, off, A', cap', rfl, g1, g2, g3, ⟨c0, c1, c2, c3, c4⟩, g5⟩ := Vs.at_get (p + 1) hlt (Vs.at_below HA.out b2 (Nat.le_refl _))
    rw [← hw2]
    clear hw2
    refine (specKey v.kids key _ _ w2 hl (Vs.at_more (Nat.le_refl _) b2.size _ _ (Vs.at_below HA.out b2 (Nat.le_refl _)))).mono ?_
    rintro e w1 ⟨rfl, rfl⟩
    rw [HP.out]
    have hnk := Vs.nodes_get (p + 1) hlt
    go_wp2_with fail
    refine (specCopy v.kids[p + 1] A' cap' w2 (by omega) (Vs.at_more (Nat.le_refl _) b2.size _ _ g5)).mono ?_
    rintro e w3 ⟨A2, c2', F, rfl, hc2, hl2, hnd, hF, hb3⟩
    have B13 := B1.below hb3 B1.lt
    obtain ⟨q0, q1, q2, q3, q4⟩ := B13.five
    have f0 := B13.frozen 0
    have f1 := B13.frozen 1
    have f2 := B13.frozen 2
    have f3 := B13.frozen 3
    have f4 := B13.frozen 4
    have hbw := b2.trans (hb3.mono b2.size)
    have HL := Lib.hid hl2
    have HND := Lib.hid hnd
    have HF := Lib.hid hF
    have HBW := Lib.hid hbw
    clear p0 p1 p2 p3 p4 c0 c1 c2 c3 c4 hl2 hnd hF hbw hb3 b2 B0 B1 B13
    unfold V.agg
    go_wp2_with fail
    refine bodyPost_ret (v := .tuple #[.agg #[.int .i64 v.kids[p + 1].k, .int .i64 v.kids[p + 1].n, .int .i64 v.kids[p + 1].e, .string v.kids[p + 1].s, .slice A2 v.kids[p + 1].kids.length c2'], .bool true]) (by simp [results, Try.results26, go_sem, q0, q1, q2, q3, q4]) rfl ?_
    have e1 : fieldD v key = v.kids[p + 1] := by rw [fieldD, HV.out]; rfl
    have e2 : fieldB v key = true := by rw [fieldB, HV.out]; rfl
    unfold FieldRet
    rw [e1, e2]
    refine ⟨A2, c2', F, rfl, hc2, Vs.lies_same HL.out ⟨by simp, fun c hc => ?_⟩, HND.out, fun c hc => by have := HF.out c hc; omega, ?_⟩
    · have h1 : c ≠ w.heap.size + 1 := by have := HF.out c hc; omega
      simp only [Below.heap_setCell _ (⟨w.heap.size + 1, _, none⟩ : Addr) _ _ (show c ≠ _ from h1)]
    · repeat (refine Below.setCell ?_ (by simp; try omega) _)
      exact HBW.out
end Go.Proofs.Ytlfiaccpihjldaa
