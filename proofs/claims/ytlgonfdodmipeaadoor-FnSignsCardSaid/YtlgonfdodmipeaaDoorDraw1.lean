/-
  The drawing cursor: bytes and numbers from it.
-/
import Derived.Test.YtlgonfdodmipeaaDoorAt1
import Derived.Test.YtlgonfdodmipeaaDoorTree
import Derived.BigQuiet
namespace Go.Proofs.YtlgonfdodmipeaaDoor
open Go.RowKit
set_option linter.unusedVariables false
set_option linter.unusedSimpArgs false
set_option maxRecDepth 100000

/-- Only block b changed, and what is new. -/
def Gr (b : Nat) (w w' : World) : Prop := w.grownBy w' (some b)
theorem Gr.refl (b : Nat) (w : World) : Gr b w w := World.grownBy.refl w _
theorem Gr.trans {b : Nat} {a c d : World} (h : Gr b a c) (k : Gr b c d) : Gr b a d := World.grownBy.trans h k
theorem Gr.alloc {b : Nat} {a w : World} (h : Gr b a w) (o : Obj) : Gr b a (w.alloc o) := h.trans (World.grownBy_alloc w o _)
theorem Gr.drewN {b : Nat} {a w : World} (h : Gr b a w) (n : Nat) : Gr b a (w.drewN n) := h.trans ⟨rfl, rfl, rfl, Nat.le_refl _, fun _ _ _ => rfl⟩
theorem Gr.drew {b : Nat} {a w : World} (h : Gr b a w) : Gr b a w.drew := h.trans ⟨rfl, rfl, rfl, Nat.le_refl _, fun _ _ _ => rfl⟩
theorem Gr.below {b B : Nat} {a w w' : World} (h : Gr b a w) (hb : Below B w w') (hB : w.heap.size ≤ B) : Gr b a w' := h.trans ⟨hb.os, hb.tape, hb.output, hb.size, fun k hk _ => hb.block k (Nat.lt_of_lt_of_le hk hB)⟩
theorem Gr.toBelow {b B : Nat} {w w' : World} (h : Gr b w w') (hB : B ≤ b) (hw : B ≤ w.heap.size) : Below B w w' := ⟨h.os, h.tape, h.output, h.size, fun k hk => h.block k (by omega) (by intro e; injection e with e; omega)⟩
theorem Gr.cell {b : Nat} {w w' : World} (h : Gr b w w') {g j : Nat} {v : Value} (hg : g ≠ b) (hc : w.cell? ⟨g, j, none⟩ = some v) : w'.cell? ⟨g, j, none⟩ = some v := World.grownBy.cell h hc (by intro e; injection e with e; exact hg e)
theorem Gr.set (b : Nat) (w : World) (i : Nat) (v : Value) : Gr b w (w.setCell ⟨b, i, none⟩ v) :=
  ⟨rfl, rfl, rfl, by simp, fun k _ hk => heap_setCell_other w ⟨b, i, none⟩ k v (fun e => hk (by simp [e]))⟩
/-- The cursor's block. -/
def CurB (w : World) (b : Nat) (A : Option Addr) (n cap : Nat) : Prop := ∃ (i : Nat) (h : Int), i ≤ n ∧ Blk w b 75 #[.slice A n cap, .int .i64 i, .int .i64 h]
/-- A cursor over bytes. -/
def Cur (w : World) (b : Nat) (A : Option Addr) (cap : Nat) (code : List UInt8) : Prop := CurB w b A code.length cap ∧ At1 w b A (code.map bv) ∧ code.length ≤ 1000000000
theorem Cur.lt {w : World} {b : Nat} {A : Option Addr} {cap : Nat} {code : List UInt8} (h : Cur w b A cap code) : b < w.heap.size := by
  obtain ⟨⟨i, h', _, hB⟩, _⟩ := h
  exact hB.lt
theorem Cur.below {w w' : World} {b : Nat} {A : Option Addr} {cap : Nat} {code : List UInt8} (h : Cur w b A cap code) {B : Nat} (hb : Below B w w') (hB : b < B) : Cur w' b A cap code := by
  obtain ⟨⟨i, h', hi, hB'⟩, h2, h3⟩ := h
  exact ⟨⟨i, h', hi, hB'.below hb hB⟩, h2.below hb (Nat.le_of_lt hB), h3⟩
theorem Cur.alloc {w : World} {b : Nat} {A : Option Addr} {cap : Nat} {code : List UInt8} (h : Cur w b A cap code) (o : Obj) : Cur (w.alloc o) b A cap code := h.below ((Below.refl w.heap.size w).alloc (Nat.le_refl _) o) h.lt
theorem Blk.set {w : World} {g : Nat} {t : TypeId} {cs : Array Value} (h : Blk w g t cs) (i : Nat) (v : Value) : Blk (w.setCell ⟨g, i, none⟩ v) g t (cs.setIfInBounds i v) := heap_setCell_same w g i cs t v h
theorem Blk.soft {w : World} {g : Nat} {t : TypeId} {cs : Array Value} (h : Blk w g t cs) (i : Nat) : w.frozen? ⟨g, i, none⟩ = false := frozen_of_row w g i cs t h
theorem At1.grown {w w' : World} {b : Nat} {A : Option Addr} {xs : List Value} (h : At1 w b A xs) (hg : Gr b w w') : At1 w' b A xs := by
  rcases h with h | ⟨g, off, h1, h2, h3⟩
  · exact .inl h
  · exact .inr ⟨g, off, h1, h2, fun j hj => hg.cell (by omega) (h3 j hj)⟩

theorem and255 (n : Int) : bits .and .i64 n 255 = ((n % 256).toNat : Int) := by
  have h255 : (BitVec.ofInt 64 255).toNat = 2 ^ 8 - 1 := by decide
  have key : (BitVec.ofInt 64 n &&& BitVec.ofInt 64 255).toNat = (n % ((2 ^ 64 : Nat) : Int)).toNat % 2 ^ 8 := by
    rw [BitVec.toNat_and, BitVec.toNat_ofInt, h255, Nat.and_two_pow_sub_one_eq_mod]
  show IntKind.i64.wrap ((BitVec.ofInt 64 n &&& BitVec.ofInt 64 255).toNat : Nat) = _
  rw [key, IntKind.wrap_i64]
  omega

/-- What drawing hands back behind a call: the cursor stands, and only it changed. -/
def Drawn (w : World) (b : Nat) (A : Option Addr) (cap : Nat) (code : List UInt8) (w' : World) : Prop := Cur w' b A cap code ∧ Gr b w w'

set_option maxHeartbeats 2000000 in
theorem dByte (b : Nat) (A : Option Addr) (cap : Nat) (code : List UInt8) (w : World) (hc : Cur w b A cap code) :
    Calls Tryd.prog 57 #[.pointer (some ⟨b, 0, none⟩)] w fun e w' => (∃ r : Nat, r < 256 ∧ e = .returned (.int .i64 r)) ∧ Drawn w b A cap code w' := by
  obtain ⟨⟨i, h, hi, hB⟩, hat, hn⟩ := hc
  have d2 : w.cell? ⟨b, 2, none⟩ = some (.int .i64 h) := hB.cell 2
  have k2 := hB.soft 2
  have HB := Lib.hid hB
  have HA := Lib.hid hat
  clear hB hat
  go_enter Tryd.func57, Tryd.ntmps57
  go_wp2_with fail
  generalize wrap64 (wrap64 (h * 6364136223846793005) + 1442695040888963407) = H
  have hB1 : Blk (w.setCell ⟨b, 2, none⟩ (.int .i64 H)) b 75 #[.slice A code.length cap, .int .i64 i, .int .i64 H] := HB.out.set 2 (.int .i64 H)
  have hg1 : Gr b w (w.setCell ⟨b, 2, none⟩ (.int .i64 H)) := Gr.set b w 2 _
  generalize w.setCell ⟨b, 2, none⟩ (.int .i64 H) = w1 at hB1 hg1 ⊢
  have HB1 := Lib.hid hB1
  have HG1 := Lib.hid hg1
  have e0 : w1.cell? ⟨b, 0, none⟩ = some (.slice A code.length cap) := hB1.cell 0
  have e1 : w1.cell? ⟨b, 1, none⟩ = some (.int .i64 i) := hB1.cell 1
  have e2 : w1.cell? ⟨b, 2, none⟩ = some (.int .i64 H) := hB1.cell 2
  clear d2 k2 hB1 hg1
  go_quiet (fail)
  rw [and255]
  have hX : (bits .xor .i64 (H / 8589934592) (H / 35184372088832) % 256).toNat < 256 := by omega
  generalize (bits .xor .i64 (H / 8589934592) (H / 35184372088832) % 256).toNat = X at hX ⊢
  have hg2 := HG1.out.drewN nq
  have hB2 : Blk (w1.drewN nq) b 75 #[.slice A code.length cap, .int .i64 i, .int .i64 H] := HB1.out
  generalize w1.drewN nq = w2 at hg2 hB2 ⊢
  have f0 : w2.cell? ⟨b, 0, none⟩ = some (.slice A code.length cap) := hB2.cell 0
  have f1 : w2.cell? ⟨b, 1, none⟩ = some (.int .i64 i) := hB2.cell 1
  have HB2 := Lib.hid hB2
  have HG2 := Lib.hid hg2
  clear e0 e1 e2 hB2 hg2
  by_cases hlt : i < code.length
  · obtain ⟨g, off, rfl, hgb, hcell⟩ := (HA.out.grown HG2.out).get (j := i) (by simpa using hlt)
    rw [List.getElem_map] at hcell
    unfold bv at hcell
    go_wp2_with fail
    go_quiet (fail)
    have hg3 := HG2.out.drewN nq
    have hB3 : Blk (w2.drewN nq) b 75 #[.slice (some ⟨g, off, none⟩) code.length cap, .int .i64 i, .int .i64 H] := HB2.out
    have hcell3 : (w2.drewN nq).cell? ⟨g, off + i, none⟩ = some (.int .u8 ((code[i]).toNat : Int)) := hcell
    generalize w2.drewN nq = w3 at hg3 hB3 hcell3 ⊢
    have e0 : w3.cell? ⟨b, 0, none⟩ = some (.slice (some ⟨g, off, none⟩) code.length cap) := hB3.cell 0
    have e1 : w3.cell? ⟨b, 1, none⟩ = some (.int .i64 i) := hB3.cell 1
    have hu : (code[i]).toNat < 256 := UInt8.toNat_lt _
    have HB3 := Lib.hid hB3
    have HG3 := Lib.hid hg3
    clear f0 f1 hcell hB3 hg3
    go_wp2_with fail
    go_quiet (fail)
    rw [and255]
    have hY : ((((X : Nat) : Int) + ((code[i]).toNat : Int)) % 256).toNat < 256 := by omega
    generalize ((((X : Nat) : Int) + ((code[i]).toNat : Int)) % 256).toNat = Y at hY ⊢
    have hg4 := HG3.out.drewN nq
    have hB4 : Blk (w3.drewN nq) b 75 #[.slice (some ⟨g, off, none⟩) code.length cap, .int .i64 i, .int .i64 H] := HB3.out
    generalize w3.drewN nq = w4 at hg4 hB4 ⊢
    have f1 : w4.cell? ⟨b, 1, none⟩ = some (.int .i64 i) := hB4.cell 1
    have k1 := hB4.soft 1
    have HB4 := Lib.hid hB4
    have HG4 := Lib.hid hg4
    clear e0 e1 hB4 hg4 hcell3
    go_wp2_with fail
    go_ret
    have hgN : Gr b w (w4.setCell ⟨b, 1, none⟩ (.int .i64 ((i + 1 : Nat) : Int))) := HG4.out.trans (Gr.set b w4 1 _)
    exact ⟨⟨Y, hY, rfl⟩, ⟨⟨i + 1, H, hlt, HB4.out.set 1 (.int .i64 ((i + 1 : Nat) : Int))⟩, HA.out.grown hgN, hn⟩, hgN⟩
  · go_wp2_with fail
    go_quiet (fail)
    go_wp2_with fail
    go_ret
    exact ⟨⟨X, hX, rfl⟩, ⟨⟨i, H, hi, HB2.out⟩, HA.out.grown (HG2.out.drewN _), hn⟩, HG2.out.drewN _⟩

theorem tmodN (x n : Nat) : Int.tmod (x : Int) (n : Int) = ((x % n : Nat) : Int) := by
  rw [Int.tmod_eq_emod_of_nonneg (by omega)]
  omega

set_option maxHeartbeats 2000000 in
theorem dBelow (n : Nat) (b : Nat) (A : Option Addr) (cap : Nat) (code : List UInt8) (w : World) (h0 : 0 < n) (hn : n ≤ 2000000000) (hc : Cur w b A cap code) :
    Calls Tryd.prog 37 #[.pointer (some ⟨b, 0, none⟩), .int .i64 n] w fun e w' => (∃ r : Nat, r < n ∧ e = .returned (.int .i64 r)) ∧ Drawn w b A cap code w' := by
  have HC := Lib.hid hc
  clear hc
  have hn0 : ¬ (n : Int) = 0 := by omega
  by_cases h256 : n ≤ 256
  · go_enter Tryd.func37, Tryd.ntmps37
    go_wp2_with fail
    refine (dByte b A cap code w HC.out).mono ?_
    rintro e w1 ⟨⟨r, hr, rfl⟩, hd⟩
    go_wp2_with fail
    go_ret
    exact ⟨⟨r % n, Nat.mod_lt _ h0, ret_eq (congrArg (Value.int .i64) (by simp))⟩, hd⟩
  · go_enter Tryd.func37, Tryd.ntmps37
    go_wp2_with fail
    refine (dByte b A cap code w HC.out).mono ?_
    rintro e w1 ⟨⟨r1, hr1, rfl⟩, hd1⟩
    go_wp2_with fail
    refine (dByte b A cap code w1 hd1.1).mono ?_
    rintro e w2 ⟨⟨r2, hr2, rfl⟩, hd2⟩
    go_wp2_with fail
    refine (dByte b A cap code w2 hd2.1).mono ?_
    rintro e w3 ⟨⟨r3, hr3, rfl⟩, hd3⟩
    go_wp2_with fail
    refine (dByte b A cap code w3 hd3.1).mono ?_
    rintro e w4 ⟨⟨r4, hr4, rfl⟩, hd4⟩
    go_wp2_with fail
    go_ret
    exact ⟨⟨(r1 * 16777216 + r2 * 65536 + r3 * 256 + r4) % n, Nat.mod_lt _ h0, ret_eq (congrArg (Value.int .i64) (by simp))⟩, hd4.1, hd1.2.trans (hd2.2.trans (hd3.2.trans hd4.2))⟩

theorem dOnce (n : Nat) (b : Nat) (A : Option Addr) (cap : Nat) (code : List UInt8) (w : World) (h0 : 0 < n) (hn : n ≤ 2000000000) (hc : Cur w b A cap code) :
    Calls Tryd.prog 43 #[.pointer (some ⟨b, 0, none⟩), .int .i64 n] w fun e w' => (∃ r : Bool, e = .returned (.bool r)) ∧ Drawn w b A cap code w' := by
  have HC := Lib.hid hc
  clear hc
  go_enter Tryd.func43, Tryd.ntmps43
  go_wp2_with fail
  refine (dBelow n b A cap code w h0 hn HC.out).mono ?_
  rintro e w1 ⟨⟨r, hr, rfl⟩, hd⟩
  by_cases hz : r = 0
  · subst hz
    go_wp2_with fail
    go_ret
    exact ⟨⟨_, rfl⟩, hd⟩
  · have hz2 : ¬ (r : Int) = 0 := by omega
    go_wp2_with fail
    go_ret
    exact ⟨⟨_, rfl⟩, hd⟩

/-- A row to pick from. -/
def PickRow (w : World) (b g : Nat) (xs : List Value) : Prop := g ≠ b ∧ ∀ j (h : j < xs.length), w.cell? ⟨g, j, none⟩ = some xs[j]
theorem PickRow.new {w : World} {b : Nat} (hb : b < w.heap.size) (xs : Array Value) (t : TypeId) : PickRow (w.alloc (.cells xs t)) b w.heap.size xs.toList := by
  refine ⟨by omega, fun j hj => ?_⟩
  simp

set_option maxHeartbeats 2000000 in
theorem dPick (l : List ByteArray) (g c : Nat) (b : Nat) (A : Option Addr) (cap : Nat) (code : List UInt8) (w : World) (h0 : 0 < l.length) (hn : l.length ≤ 1000) (hc : Cur w b A cap code) (hp : PickRow w b g (l.map Value.string)) :
    Calls Tryd.prog 44 #[.pointer (some ⟨b, 0, none⟩), .slice (some ⟨g, 0, none⟩) l.length c] w fun e w' => (∃ s ∈ l, e = .returned (.string s)) ∧ Drawn w b A cap code w' := by
  have HC := Lib.hid hc
  have HP := Lib.hid hp
  clear hc hp
  go_enter Tryd.func44, Tryd.ntmps44
  go_wp2_with fail
  refine (dBelow l.length b A cap code w h0 (by omega) HC.out).mono ?_
  rintro e w1 ⟨⟨r, hr, rfl⟩, hd⟩
  have d0 := hd.2.cell HP.out.1 (HP.out.2 r (by simpa using hr))
  rw [List.getElem_map] at d0
  go_wp2_with fail
  go_ret
  exact ⟨⟨_, List.getElem_mem hr, rfl⟩, hd⟩

set_option maxHeartbeats 2000000 in
theorem dPickInt (l : List Int) (g c : Nat) (b : Nat) (A : Option Addr) (cap : Nat) (code : List UInt8) (w : World) (h0 : 0 < l.length) (hn : l.length ≤ 1000) (hc : Cur w b A cap code) (hp : PickRow w b g (l.map (Value.int .i64))) :
    Calls Tryd.prog 36 #[.pointer (some ⟨b, 0, none⟩), .slice (some ⟨g, 0, none⟩) l.length c] w fun e w' => (∃ z ∈ l, e = .returned (.int .i64 z)) ∧ Drawn w b A cap code w' := by
  have HC := Lib.hid hc
  have HP := Lib.hid hp
  clear hc hp
  go_enter Tryd.func36, Tryd.ntmps36
  go_wp2_with fail
  refine (dBelow l.length b A cap code w h0 (by omega) HC.out).mono ?_
  rintro e w1 ⟨⟨r, hr, rfl⟩, hd⟩
  have d0 := hd.2.cell HP.out.1 (HP.out.2 r (by simpa using hr))
  rw [List.getElem_map] at d0
  go_wp2_with fail
  go_ret
  exact ⟨⟨_, List.getElem_mem hr, rfl⟩, hd⟩
end Go.Proofs.YtlgonfdodmipeaaDoor
