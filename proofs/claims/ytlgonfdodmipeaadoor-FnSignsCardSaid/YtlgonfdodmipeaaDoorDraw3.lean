/-
  The drawing cursor: a text bent.
-/
import Derived.Test.YtlgonfdodmipeaaDoorDraw2
namespace Go.Proofs.YtlgonfdodmipeaaDoor
open Go.RowKit
set_option linter.unusedVariables false
set_option linter.unusedSimpArgs false
set_option maxRecDepth 100000

def bentL1 : List ByteArray := [⟨#[48]⟩, ⟨#[32]⟩, ⟨#[255]⟩, ⟨#[128]⟩, ⟨#[34]⟩, ⟨#[92]⟩, ⟨#[97]⟩, ⟨#[44]⟩]
def bentL2 : List ByteArray := [⟨#[48]⟩, ⟨#[192]⟩, ⟨#[0]⟩, ⟨#[57]⟩, ⟨#[93]⟩]
theorem bent_size1 : ∀ s ∈ bentL1, s.size ≤ 1 := by decide
theorem bent_size2 : ∀ s ∈ bentL2, s.size ≤ 1 := by decide
set_option maxHeartbeats 4000000 in
theorem dBent (s : ByteArray) (b : Nat) (A : Option Addr) (cap : Nat) (code : List UInt8) (w : World) (hs : s.size ≤ 1000000) (hc : Cur w b A cap code) :
    Calls Tryd.prog 39 #[.pointer (some ⟨b, 0, none⟩), .string s] w fun e w' => (∃ t : ByteArray, t.size ≤ s.size + 1 ∧ e = .returned (.string t)) ∧ Drawn w b A cap code w' := by
  have HC := Lib.hid hc
  clear hc
  go_enter Tryd.func39, Tryd.ntmps39
  go_wp2_with fail
  have hcall := dBelow (s.size + 1) b A cap code w (by omega) (by omega) HC.out
  refine hcall.mono ?_
  rintro e w1 ⟨⟨i, hi, rfl⟩, hd1⟩
  have HD1 := Lib.hid hd1
  clear hd1
  go_wp2_with fail
  refine (dBelow 8 b A cap code w1 (by omega) (by omega) HD1.out.1).mono ?_
  rintro e w2 ⟨⟨k, hk, rfl⟩, hd2⟩
  have HD2 := Lib.hid (HD1.out.trans hd2)
  clear hd2
  have hib : (0 : Int) ≤ (i : Int) ∧ (i : Int) ≤ (s.size : Int) := by omega
  by_cases k0 : k = 0
  · subst k0
    go_wp2_with fail
    go_ret
    exact ⟨⟨_, by rw [ByteArray.size_extract]; omega, rfl⟩, HD2.out⟩
  · have k0i : ¬ (k : Int) = 0 := by omega
    by_cases k1 : k = 1
    · subst k1
      have hsa : (s.extract 0 i).size ≤ s.size := by rw [ByteArray.size_extract]; omega
      have hsb : (s.extract i s.size).size + i ≤ s.size := by rw [ByteArray.size_extract]; omega
      have hsc : (s.extract 0 i).size ≤ i := by rw [ByteArray.size_extract]; omega
      have HP := Lib.hid (dPickNewD bentL1 b A cap code w2 (by decide) (by decide) HD2.out.1)
      go_wp2_with fail
      go_region_held3 (fun _ => True) (exact trivial) (first | (go_at_call 44; refine HP.out.mono ?_; rintro e w3 ⟨⟨p, hp, rfl⟩, hd3⟩; have hps := bent_size1 p hp; have hsum1 := fun W => run_string_add_sum (P := Tryd.prog) (w := W) (s.extract 0 i) p (by omega); have hsum2 := fun W => run_string_add_sum (P := Tryd.prog) (w := W) (s.extract 0 i ++ p) (s.extract i s.size) (by rw [ByteArray.size_append]; omega)))
      all_goals
        go_wp2_with fail
        go_ret
        exact ⟨⟨_, by rw [ByteArray.size_append, ByteArray.size_append]; omega, rfl⟩, HD2.out.trans hd3⟩
    · have k1i : ¬ (k : Int) = 1 := by omega
      by_cases k2 : k = 2
      · subst k2
        by_cases hlt : i < s.size
        · have hsc : (s.extract 0 i).size ≤ i := by rw [ByteArray.size_extract]; omega
          have hsb : (s.extract (i + 1) s.size).size + i + 1 ≤ s.size := by rw [ByteArray.size_extract]; omega
          have hlt2 : (i : Int) < (s.size : Int) := by omega
          have hi1 : (0 : Int) ≤ (i : Int) + 1 ∧ (i : Int) + 1 ≤ (s.size : Int) := by omega
          have hwr : IntKind.i64.wrap ((i : Int) + 1) = (i : Int) + 1 := by rw [IntKind.wrap_i64]; omega
          have htn : ((i : Int) + 1).toNat = i + 1 := by omega
          have HP := Lib.hid (dPickNewD bentL2 b A cap code w2 (by decide) (by decide) HD2.out.1)
          go_wp2_with fail
          go_region_held3 (fun _ => True) (exact trivial) (first | (go_at_call 44; refine HP.out.mono ?_; rintro e w3 ⟨⟨p, hp, rfl⟩, hd3⟩; have hps := bent_size2 p hp; have hsum1 := fun W => run_string_add_sum (P := Tryd.prog) (w := W) (s.extract 0 i) p (by omega); have hsum2 := fun W => run_string_add_sum (P := Tryd.prog) (w := W) (s.extract 0 i ++ p) (s.extract (i + 1) s.size) (by rw [ByteArray.size_append]; omega)))
          all_goals
            go_wp2_with fail
            go_ret
            exact ⟨⟨_, by rw [ByteArray.size_append, ByteArray.size_append]; omega, rfl⟩, HD2.out.trans hd3⟩
        · have hlt2 : (s.size : Int) ≤ (i : Int) := by omega
          go_wp2_with fail
          go_ret
          exact ⟨⟨s, by omega, rfl⟩, HD2.out⟩
      · have k2i : ¬ (k : Int) = 2 := by omega
        go_wp2_with fail
        go_ret
        exact ⟨⟨s, by omega, rfl⟩, HD2.out⟩

/-- A whole draw: below the world's end only new blocks. -/
theorem Drawn.toBelow {b cap : Nat} {A : Option Addr} {code : List UInt8} {w0 w w' : World} (h : Drawn w b A cap code w') (h0 : Below w0.heap.size w0 w) (hb : w0.heap.size ≤ b) : Below w0.heap.size w0 w' := h0.trans (h.2.toBelow hb h0.size)
/-- What a draw of a text hands back: some text of bounded size. -/
def Drew (n : Nat) (w : World) (e : Ending) (w' : World) : Prop := (∃ t : ByteArray, t.size ≤ n ∧ e = .returned (.string t)) ∧ Below w.heap.size w w'
set_option maxHeartbeats 2000000 in
theorem drawSigns (A : Option Addr) (cap : Nat) (code : List UInt8) (w : World) (hat : At1 w w.heap.size A (code.map bv)) (hn : code.length ≤ 1000000000) :
    Calls Tryd.prog 16 #[.slice A code.length cap] w fun e w' => Drew 20 w e w' := by
  have HN := Lib.hid (dNew A cap code w hat hn)
  clear hat
  go_enter Tryd.func16, Tryd.ntmps16
  go_wp2_with fail
  refine HN.out.mono ?_
  rintro e w1 ⟨rfl, hc1, hb1⟩
  go_wp2_with fail
  refine (dSome _ A cap code w1 hc1).mono ?_
  rintro e w2 ⟨⟨s, hs, rfl⟩, hd2⟩
  go_wp2_with fail
  refine (dBent s _ A cap code w2 (by omega) hd2.1).mono ?_
  rintro e w3 ⟨⟨t, ht, rfl⟩, hd3⟩
  go_wp2_with fail
  go_ret
  exact ⟨⟨t, by omega, rfl⟩, (hd2.trans hd3).toBelow hb1 (Nat.le_refl _)⟩
def okL : List ByteArray := [⟨#[192, 128]⟩, ⟨#[224, 128, 128]⟩, ⟨#[237, 160, 128]⟩, ⟨#[244, 144, 128, 128]⟩, ⟨#[248]⟩, ⟨#[128]⟩, ⟨#[195]⟩, ⟨#[]⟩]
theorem ok_size : ∀ s ∈ okL, s.size ≤ 4 := by decide
set_option maxHeartbeats 2000000 in
theorem drawTextOk (A : Option Addr) (cap : Nat) (code : List UInt8) (w : World) (hat : At1 w w.heap.size A (code.map bv)) (hn : code.length ≤ 1000000000) :
    Calls Tryd.prog 15 #[.slice A code.length cap] w fun e w' => Drew 20 w e w' := by
  have HN := Lib.hid (dNew A cap code w hat hn)
  clear hat
  go_enter Tryd.func15, Tryd.ntmps15
  go_wp2_with fail
  refine HN.out.mono ?_
  rintro e w1 ⟨rfl, hc1, hb1⟩
  go_wp2_with fail
  refine (dOnce 3 _ A cap code w1 (by omega) (by omega) hc1).mono ?_
  rintro e w2 ⟨⟨r, rfl⟩, hd2⟩
  cases r with
  | true =>
    go_wp2_with fail
    refine (dPickNew okL _ A cap code _ (by decide) (by decide) hd2.1).mono ?_
    rintro e w3 ⟨⟨p, hp, rfl⟩, hd3⟩
    have hps := ok_size p hp
    clear hp
    go_wp2_with fail
    go_ret
    exact ⟨⟨p, by omega, rfl⟩, (hd2.trans hd3).toBelow hb1 (Nat.le_refl _)⟩
  | false =>
    go_wp2_with fail
    refine (dSome _ A cap code w2 hd2.1).mono ?_
    rintro e w3 ⟨⟨s, hs, rfl⟩, hd3⟩
    go_wp2_with fail
    refine (dBent s _ A cap code w3 (by omega) hd3.1).mono ?_
    rintro e w4 ⟨⟨t, ht, rfl⟩, hd4⟩
    go_wp2_with fail
    go_ret
    exact ⟨⟨t, by omega, rfl⟩, ((hd2.trans hd3).trans hd4).toBelow hb1 (Nat.le_refl _)⟩
def psL (r : Int) : List Int := [0, 65, 127, 128, 2047, 2048, 55295, 55296, 57343, 57344, 65535, 65536, 1114111, 1114112, -1, r]
theorem ps_range (r : Int) (h : 0 ≤ r ∧ r ≤ 100000) : ∀ z ∈ psL r, -1 ≤ z ∧ z ≤ 1114112 := by
  intro z hz
  simp only [psL, List.mem_cons, List.not_mem_nil, or_false] at hz
  omega
set_option maxHeartbeats 2000000 in
theorem drawPutSign (A : Option Addr) (cap : Nat) (code : List UInt8) (w : World) (hat : At1 w w.heap.size A (code.map bv)) (hn : code.length ≤ 1000000000) :
    Calls Tryd.prog 10 #[.slice A code.length cap] w fun e w' => (∃ z : Int, (-1 ≤ z ∧ z ≤ 1114112) ∧ e = .returned (.int .i64 z)) ∧ Below w.heap.size w w' := by
  have HN := Lib.hid (dNew A cap code w hat hn)
  clear hat
  go_enter Tryd.func10, Tryd.ntmps10
  go_wp2_with fail
  refine HN.out.mono ?_
  rintro e w1 ⟨rfl, hc1, hb1⟩
  go_wp2_with fail
  refine (dBelow 100000 _ A cap code w1 (by omega) (by omega) hc1).mono ?_
  rintro e w2 ⟨⟨r, hr, rfl⟩, hd2⟩
  go_wp2_with fail
  refine (dPickIntNew (psL r) _ A cap code _ (by simp [psL]) (by simp [psL]) hd2.1).mono ?_
  rintro e w3 ⟨⟨z, hz, rfl⟩, hd3⟩
  have hzr := ps_range r ⟨by omega, by omega⟩ z hz
  clear hz
  go_wp2_with fail
  go_ret
  exact ⟨⟨z, hzr, rfl⟩, (hd2.trans hd3).toBelow hb1 (Nat.le_refl _)⟩
def gsL : List Int := [0, 1, 2, 3, -1, 9223372036854775807]
theorem gsL_range : ∀ z ∈ gsL, -9223372036854775808 ≤ z ∧ z ≤ 9223372036854775807 := by decide
set_option maxHeartbeats 2000000 in
theorem drawGetSign (A : Option Addr) (cap : Nat) (code : List UInt8) (w : World) (hat : At1 w w.heap.size A (code.map bv)) (hn : code.length ≤ 1000000000) :
    Calls Tryd.prog 12 #[.slice A code.length cap] w fun e w' => (∃ (t : ByteArray) (z : Int), t.size ≤ 20 ∧ (-9223372036854775808 ≤ z ∧ z ≤ 9223372036854775807) ∧ e = .returned (.tuple #[.string t, .int .i64 z])) ∧ Below w.heap.size w w' := by
  have HN := Lib.hid (dNew A cap code w hat hn)
  clear hat
  go_enter Tryd.func12, Tryd.ntmps12
  go_wp2_with fail
  refine HN.out.mono ?_
  rintro e w1 ⟨rfl, hc1, hb1⟩
  go_wp2_with fail
  refine (dSome _ A cap code w1 hc1).mono ?_
  rintro e w2 ⟨⟨s, hs, rfl⟩, hd2⟩
  go_wp2_with fail
  refine (dBent s _ A cap code w2 (by omega) hd2.1).mono ?_
  rintro e w3 ⟨⟨t, ht, rfl⟩, hd3⟩
  have hx1 : (ByteArray.mk #[120]).size = 1 := rfl
  have hx2 : (ByteArray.mk #[121]).size = 1 := rfl
  go_wp2_with fail
  refine (dPickIntNew gsL _ A cap code _ (by decide) (by decide) hd3.1).mono ?_
  rintro e w4 ⟨⟨z, hz, rfl⟩, hd4⟩
  have hzr := gsL_range z hz
  clear hz
  go_wp2_with fail
  go_ret2
  exact ⟨⟨_, z, by rw [ByteArray.size_append, ByteArray.size_append]; omega, hzr, rfl⟩, ((hd2.trans hd3).trans hd4).toBelow hb1 (Nat.le_refl _)⟩
end Go.Proofs.YtlgonfdodmipeaaDoor
