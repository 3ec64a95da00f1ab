/-
  The drawing cursor: a new one; short texts; a text bent.
-/
import Derived.Test.YtlgonfdodmipeaaDoorDraw1
import Derived.Deep.RegionHeld3
namespace Go.Proofs.YtlgonfdodmipeaaDoor
open Go.RowKit
set_option linter.unusedVariables false
set_option linter.unusedSimpArgs false
set_option maxRecDepth 100000

set_option maxHeartbeats 2000000 in
theorem dNew (A : Option Addr) (cap : Nat) (code : List UInt8) (w : World) (hat : At1 w w.heap.size A (code.map bv)) (hn : code.length ≤ 1000000000) :
    Calls Tryd.prog 35 #[.slice A code.length cap] w fun e w' => e = .returned (.pointer (some ⟨w.heap.size, 0, none⟩)) ∧ Cur w' w.heap.size A cap code ∧ Below w.heap.size w w' := by
  have HA := Lib.hid hat
  clear hat
  go_enter Tryd.func35, Tryd.ntmps35
  go_wp2_with fail
  go_loop [3, 4] (fun h i => ∃ (j : Nat) (H : Int), j ≤ code.length ∧ i = .int .i64 j ∧ h = .int .i64 H) (fun _ i => code.length - (intOf i).toNat)
  case atStart => exact ⟨0, _, Nat.zero_le _, rfl, rfl⟩
  case round =>
    obtain ⟨j, H, hj, rfl, rfl⟩ := hrel
    have fin : ∀ (H : Int), Cur (w.alloc (.cells #[.slice A code.length cap, .int .i64 0, .int .i64 H] 75)) w.heap.size A cap code ∧ Below w.heap.size w (w.alloc (.cells #[.slice A code.length cap, .int .i64 0, .int .i64 H] 75)) := fun H =>
      ⟨⟨⟨0, H, Nat.zero_le _, Blk.new w _ _⟩, HA.out.below ((Below.refl w.heap.size w).alloc (Nat.le_refl _) _) (Nat.le_refl _), hn⟩, (Below.refl _ _).alloc (Nat.le_refl _) _⟩
    have HF := Lib.hid fin
    clear fin
    by_cases hlt : j < code.length
    · by_cases h4 : j < 4000
      · obtain ⟨g, off, rfl, hgb, hcell⟩ := HA.out.get (j := j) (by simpa using hlt)
        rw [List.getElem_map] at hcell
        unfold bv at hcell
        have h4i : (j : Int) < 4000 := by omega
        go_wp2_with fail
        go_round
        case rel => exact ⟨j + 1, _, hlt, by go_num, rfl⟩
        case measure => simp [intOf]; omega
      · have h4i : ¬ (j : Int) < 4000 := by omega
        go_wp2_with fail
        go_ret
        exact ⟨rfl, HF.out _⟩
    · obtain rfl : j = code.length := by omega
      go_wp2_with fail
      go_ret
      exact ⟨rfl, HF.out _⟩

theorem Drawn.trans {b cap : Nat} {A : Option Addr} {code : List UInt8} {a c d : World} (h : Drawn a b A cap code c) (k : Drawn c b A cap code d) : Drawn a b A cap code d := ⟨k.1, h.2.trans k.2⟩
theorem Drawn.refl {b cap : Nat} {A : Option Addr} {code : List UInt8} {w : World} (h : Cur w b A cap code) : Drawn w b A cap code w := ⟨h, Gr.refl _ _⟩
theorem Drawn.alloc {b cap : Nat} {A : Option Addr} {code : List UInt8} {w : World} (h : Cur w b A cap code) (o : Obj) : Drawn w b A cap code (w.alloc o) := ⟨h.alloc o, (Gr.refl _ _).alloc o⟩
theorem Drawn.of {b cap : Nat} {A : Option Addr} {code : List UInt8} {w w' : World} (h : Cur w b A cap code) (hb : Below w.heap.size w w') : Drawn w b A cap code w' := ⟨h.below hb h.lt, (Gr.refl _ _).below hb (Nat.le_refl _)⟩
/-- Picking from a new row of texts. -/
theorem dPickNew (l : List ByteArray) (b : Nat) (A : Option Addr) (cap : Nat) (code : List UInt8) (w : World) (h0 : 0 < l.length) (hn : l.length ≤ 1000) (hc : Cur w b A cap code) :
    Calls Tryd.prog 44 #[.pointer (some ⟨b, 0, none⟩), .slice (some ⟨w.heap.size, 0, none⟩) l.length l.length] (w.alloc (.cells (l.map Value.string).toArray 9)) fun e w' => (∃ s ∈ l, e = .returned (.string s)) ∧ Drawn w b A cap code w' := by
  have hp := PickRow.new hc.lt (l.map Value.string).toArray 9
  rw [List.toList_toArray] at hp
  refine (dPick l w.heap.size l.length b A cap code _ h0 hn (hc.alloc _) hp).mono ?_
  rintro e w' ⟨he, hd⟩
  exact ⟨he, (Drawn.alloc hc _).trans hd⟩
theorem dPickNewD (l : List ByteArray) (b : Nat) (A : Option Addr) (cap : Nat) (code : List UInt8) (w : World) (h0 : 0 < l.length) (hn : l.length ≤ 1000) (hc : Cur w b A cap code) :
    Calls Tryd.prog 44 #[.pointer (some ⟨b, 0, none⟩), .slice (some ⟨w.heap.size, 0, none⟩) l.length l.length] (w.alloc (.cells (l.map Value.string).toArray 9)).drew fun e w' => (∃ s ∈ l, e = .returned (.string s)) ∧ Drawn w b A cap code w' := by
  have hp := PickRow.new hc.lt (l.map Value.string).toArray 9
  rw [List.toList_toArray] at hp
  refine (dPick l w.heap.size l.length b A cap code _ h0 hn (show Cur (w.alloc (.cells (l.map Value.string).toArray 9)).drew b A cap code from hc.alloc _) hp).mono ?_
  rintro e w' ⟨he, hd⟩
  exact ⟨he, hd.1, (((Gr.refl _ _).alloc _).drew).trans hd.2⟩
theorem dPickIntNewD (l : List Int) (b : Nat) (A : Option Addr) (cap : Nat) (code : List UInt8) (w : World) (h0 : 0 < l.length) (hn : l.length ≤ 1000) (hc : Cur w b A cap code) :
    Calls Tryd.prog 36 #[.pointer (some ⟨b, 0, none⟩), .slice (some ⟨w.heap.size, 0, none⟩) l.length l.length] (w.alloc (.cells (l.map (Value.int .i64)).toArray 3)).drew fun e w' => (∃ z ∈ l, e = .returned (.int .i64 z)) ∧ Drawn w b A cap code w' := by
  have hp := PickRow.new hc.lt (l.map (Value.int .i64)).toArray 3
  rw [List.toList_toArray] at hp
  refine (dPickInt l w.heap.size l.length b A cap code _ h0 hn (show Cur (w.alloc (.cells (l.map (Value.int .i64)).toArray 3)).drew b A cap code from hc.alloc _) hp).mono ?_
  rintro e w' ⟨he, hd⟩
  exact ⟨he, hd.1, (((Gr.refl _ _).alloc _).drew).trans hd.2⟩
theorem dPickIntNew (l : List Int) (b : Nat) (A : Option Addr) (cap : Nat) (code : List UInt8) (w : World) (h0 : 0 < l.length) (hn : l.length ≤ 1000) (hc : Cur w b A cap code) :
    Calls Tryd.prog 36 #[.pointer (some ⟨b, 0, none⟩), .slice (some ⟨w.heap.size, 0, none⟩) l.length l.length] (w.alloc (.cells (l.map (Value.int .i64)).toArray 3)) fun e w' => (∃ z ∈ l, e = .returned (.int .i64 z)) ∧ Drawn w b A cap code w' := by
  have hp := PickRow.new hc.lt (l.map (Value.int .i64)).toArray 3
  rw [List.toList_toArray] at hp
  refine (dPickInt l w.heap.size l.length b A cap code _ h0 hn (hc.alloc _) hp).mono ?_
  rintro e w' ⟨he, hd⟩
  exact ⟨he, (Drawn.alloc hc _).trans hd⟩

def someL : List ByteArray := [⟨#[97]⟩, ⟨#[98]⟩, ⟨#[110, 97, 109, 101]⟩, ⟨#[34]⟩, ⟨#[92]⟩, ⟨#[10]⟩, ⟨#[1]⟩, ⟨#[195, 169]⟩, ⟨#[226, 130, 172]⟩, ⟨#[240, 159, 152, 128]⟩, ⟨#[47]⟩, ⟨#[48]⟩, ⟨#[32]⟩]
theorem someL_size : ∀ s ∈ someL, s.size ≤ 4 := by decide
set_option maxHeartbeats 2000000 in
theorem dSome (b : Nat) (A : Option Addr) (cap : Nat) (code : List UInt8) (w : World) (hc : Cur w b A cap code) :
    Calls Tryd.prog 40 #[.pointer (some ⟨b, 0, none⟩)] w fun e w' => (∃ s : ByteArray, s.size ≤ 16 ∧ e = .returned (.string s)) ∧ Drawn w b A cap code w' := by
  have HC := Lib.hid hc
  clear hc
  go_enter Tryd.func40, Tryd.ntmps40
  go_wp2_with fail
  refine (dBelow 5 b A cap code w (by omega) (by omega) HC.out).mono ?_
  rintro e w1 ⟨⟨n, hn, rfl⟩, hd1⟩
  have HD1 := Lib.hid hd1
  clear hd1
  go_wp2_with fail
  go_loopw [3, 5] (fun o i wr => ∃ (j : Nat) (t : ByteArray), j ≤ n ∧ i = .int .i64 j ∧ o = .string t ∧ t.size ≤ 4 * j ∧ Hid (Drawn w b A cap code wr)) (fun _ i _ => n - (intOf i).toNat)
  case atStart => exact ⟨0, ⟨#[]⟩, Nat.zero_le _, rfl, rfl, Nat.zero_le _, HD1⟩
  case round =>
    obtain ⟨j, t, hj, rfl, rfl, ht, HD⟩ := hrel
    by_cases hlt : j < n
    · go_wp2_with fail
      refine (dPickNew someL b A cap code _ (by decide) (by decide) HD.out.1).mono ?_
      rintro e w2 ⟨⟨p, hp, rfl⟩, hd2⟩
      have hps := someL_size p hp
      have HD2 := Lib.hid (HD.out.trans hd2)
      clear hp hd2
      go_wp2_with fail
      go_roundw
      case rel => exact ⟨j + 1, t ++ p, hlt, by go_num, rfl, by simp; omega, HD2⟩
      case measure => simp [intOf]; omega
    · obtain rfl : j = n := by omega
      go_wp2_with fail
      go_ret
      exact ⟨⟨t, by omega, rfl⟩, HD.out⟩
end Go.Proofs.YtlgonfdodmipeaaDoor
