/-
  PutWide: the bytes of a number, the highest first.
-/
import Derived.Test.YtiffgiabnjdeoaaWide
import Derived.Deep.LoopGhost
namespace Go.Proofs.Ytiffgiabnjdeoaa
open Go.RowKit
set_option linter.unusedVariables false

/-- Byte number k of a number, counted from the lowest. -/
def byteOf (n : Int) (k : Nat) : UInt8 := UInt8.ofNat ((n / (256 : Int) ^ k) % 256).toNat
/-- The m lowest bytes of a number, the highest first. -/
def wide (n : Int) (m : Nat) : List UInt8 := (List.range m).reverse.map (byteOf n)
theorem wide_succ (n : Int) (m : Nat) : wide n (m + 1) = byteOf n m :: wide n m := by
  simp [wide, List.range_succ]
theorem wide_len (n : Int) (m : Nat) : (wide n m).length = m := by simp [wide]
/-- What has been written when the bytes from m - 1 down to k have been. -/
theorem wide_take (n : Int) (m t : Nat) (h : t < m) : (wide n m).take (t + 1) = (wide n m).take t ++ [byteOf n (m - 1 - t)] := by
  have hl : t < (wide n m).length := by rw [wide_len]; exact h
  rw [List.take_succ_eq_append_getElem hl]
  congr 2
  simp [wide]
theorem own_lit1 {base : Nat} (w : World) (e : TypeId) (u : Value) (h : base ≤ w.heap.size) : (w.alloc (.cells #[u] e)).ownsRow base e 1 (.slice (some ⟨w.heap.size, 0, none⟩) 1 1) 1 [u] :=
  World.ownsRow_lit w #[u] 1 h (by unfold maxLen; omega) (by simp)

theorem own_cells {w : World} {base : Nat} {e : TypeId} {g c n : Nat} {xs : List Value} (h : w.ownsRow base e 1 (.slice (some ⟨g, 0, none⟩) n c) n xs) : ∀ (j : Nat) (u : Value), xs[j]? = some u → w.cell? ((⟨g, 0, none⟩ : Addr).add j) = some u :=
  h.cells rfl
theorem own_form {w : World} {base : Nat} {e : TypeId} {v : Value} {n : Nat} {xs : List Value} (h : w.ownsRow base e 1 v n xs) (hn : 0 < n) : ∃ g c, v = .slice (some ⟨g, 0, none⟩) n c := by
  rcases h.2 with ⟨_, h0⟩ | ⟨g, c, _, hv, _⟩
  · omega
  · exact ⟨g, c, hv⟩
theorem byteOf_nat (n k : Nat) : ((byteOf n k).toNat : Int) = ((n / 256 ^ k : Nat) : Int) % 256 := by
  unfold byteOf
  have e : ((n : Int) / (256 : Int) ^ k) = ((n / 256 ^ k : Nat) : Int) := by simp
  rw [e, UInt8.toNat_ofNat']
  omega
theorem byte_spec (n k : Nat) : Value.int .u8 (((n : Int) / 256 ^ k).tmod 256 % 256) = bv (byteOf n k) := by
  unfold bv
  rw [byteOf_nat, show ((n : Int) / 256 ^ k) = ((n / 256 ^ k : Nat) : Int) by simp]
  generalize n / 256 ^ k = x
  rw [Int.tmod_eq_emod_of_nonneg (by omega)]
  congr 1
  omega
theorem div_spec (n k : Nat) (hn : n < 18446744073709551616) : IntKind.u64.wrap (((n : Int) / 256 ^ k).tdiv 256) = ((n / 256 ^ (k + 1) : Nat) : Int) := by
  rw [Nat.pow_succ, ← Nat.div_div_eq_div_mul, show ((n : Int) / 256 ^ k) = ((n / 256 ^ k : Nat) : Int) by simp]
  have h : n / 256 ^ k ≤ n := Nat.div_le_self _ _
  generalize n / 256 ^ k = x at *
  rw [Int.tdiv_eq_ediv_of_nonneg (by omega), IntKind.wrap_u64]
  omega
theorem byte_impl (n : Int) (k : Nat) : Value.int .u8 (n / 2 ^ (8 * k) % 256) = bv (byteOf n k) := by
  have e : (2 : Int) ^ (8 * k) = 256 ^ k := by rw [Int.pow_mul]; rfl
  rw [e]
  unfold bv byteOf
  rw [UInt8.toNat_ofNat']
  congr 1
  generalize n / 256 ^ k = x
  omega

set_option maxHeartbeats 1000000 in
theorem specL05Big (n m : Nat) (w : World) (hn : n < 18446744073709551616) (hm : m ≤ 8) :
    Calls Try.prog 37 #[.int .u64 n, .int .i64 m] w fun e w' => e = .returned (.string (str (wide n m))) ∧ Below w.heap.size w w' := by
  go_enter Try.func37, Try.ntmps37
  go_wp2
  go_loopw [0, 5, 6] (fun x v i wr => ∃ k : Nat, k ≤ m ∧ i = .int .i64 k ∧ x = .int .u64 ((n / 256 ^ k : Nat) : Int) ∧ (∃ g c, v = .slice (some ⟨g, 0, none⟩) k c) ∧ wr.ownsRow w.heap.size 5 1 v k ((wide n k).map bv) ∧ Below w.heap.size w wr)
    (fun _ _ i _ => m - (intOf i).toNat)
  case atStart => exact ⟨0, Nat.zero_le _, rfl, by simp, ⟨_, _, rfl⟩, own_empty w _ _, (Below.refl _ _).alloc (Nat.le_refl _) _⟩
  case round =>
    obtain ⟨k, hk, rfl, rfl, ⟨g, c, rfl⟩, hown, hb⟩ := hrel
    by_cases hlt : k < m
    · go_wp2_with (at_builtin; refine wpList_app rfl (.tmp 16) (.tmp 17) 48 rfl w.heap.size 5 Try.underlying48 infoU8 rfl (by decide) rfl (own_lit1 wr _ _ hb.size) (hb.alloc hb.size _) (Nat.le_trans hb.size (by simp)) _ k c _ rfl (by simp [wide_len]) (own_cells (hown.alloc _)) (bv_one (wide n k)) (by unfold maxLen; omega) (by omega) ?_; intro v' w' hown' hb' hB'; obtain ⟨g', c', rfl⟩ := own_form hown' (by omega))
      rw [byte_spec] at hown'
      have HX : Hid (IntKind.u64.wrap (((n : Int) / 256 ^ k).tdiv 256) = ((n / 256 ^ (k + 1) : Nat) : Int)) := div_spec n k hn
      go_wp2
      go_roundw
      case rel => exact ⟨k + 1, by omega, by go_num, by rw [HX.out], ⟨g', c', by rw [Nat.add_comm k 1]⟩, by rw [wide_succ, Nat.add_comm k 1]; exact hown', hb'⟩
      case measure => simp [intOf]; omega
    · obtain rfl : k = m := by omega
      have hcv := run_string_own (P := Try.prog) 48 9 5 Try.underlying48 Try.underlying5 Try.underlying9 hown
      clear hown
      go_wp2
      go_ret
      exact ⟨rfl, hb⟩

set_option maxHeartbeats 1000000 in
theorem implPutWide_yes (n : Int) (m : Nat) (w : World) (h0 : -9223372036854775808 ≤ n ∧ n ≤ 9223372036854775807) (h1 : 1 ≤ m) (hm : m ≤ 8) :
    Calls Try.prog 20 #[.int .i64 n, .int .i64 m] w fun e w' => e = .returned (.string (str (wide n m))) ∧ Below w.heap.size w w' := by
  have hd : decide ((m : Int) ≤ 8) = true := by simp; omega
  go_enter Try.func20, Try.ntmps20
  go_wp2
  go_loopg [5, 6] m (fun g v i wr => ∃ t : Nat, t + g = m ∧ i = .int .i64 ((m : Int) - 1 - t) ∧ wr.ownsRow w.heap.size 5 1 v t (((wide n m).take t).map bv) ∧ Below w.heap.size w wr)
  case atStart => exact ⟨0, Nat.zero_add _, by simp, own_empty w _ _, (Below.refl _ _).alloc (Nat.le_refl _) _⟩
  case round =>
    obtain ⟨t, ht0, rfl, hown, hb⟩ := hrel
    have HG := Lib.hid ht0
    have ht : t ≤ m := by omega
    have htg : t + gk ≤ m := by omega
    clear ht0
    by_cases hlt : t < m
    · obtain ⟨k, hk⟩ : ∃ k : Nat, k + t + 1 = m := ⟨m - 1 - t, by omega⟩
      have e1 : (m : Int) - 1 - t = k := by omega
      rw [e1]
      have HK := Lib.hid hk
      have hk7 : k ≤ 7 := by omega
      clear e1 hk
      go_wp2_with (at_builtin; (refine wpList_app rfl (.tmp 17) (.tmp 23) 48 rfl w.heap.size 5 Try.underlying48 infoU8 rfl (by decide) rfl (hown.alloc _) (hb.alloc hb.size _) (Nat.le_trans hb.size (by simp)) _ 1 1 _ rfl rfl (cells_new _ _ _) (one_u8 _) (by unfold maxLen; omega) (by omega) ?_; intro v' w' hown' hb' hB'))
      rw [byte_impl, show k = m - 1 - t by have := HK.out; omega] at hown'
      have HT := Lib.hid (wide_take n m t (by omega))
      go_wp2
      go_roundg (gk - 1)
      case rel => exact ⟨t + 1, by have := HG.out; omega, by have := HK.out; go_num, by rw [HT.out, List.map_append]; exact hown', hb'⟩
      case measure => have := HG.out; omega
    · obtain rfl : t = m := by have := HG.out; omega
      have hcv := run_string_own (P := Try.prog) 48 9 5 Try.underlying48 Try.underlying5 Try.underlying9 hown
      clear hown
      go_wp2
      go_ret
      exact ⟨ret_eq (congrArg (fun l => Value.string (str l)) (List.take_of_length_le (by rw [wide_len]; omega))), hb⟩

theorem byteOf_mod (n : Int) (k : Nat) (hk : k < 8) : byteOf (n % 18446744073709551616) k = byteOf n k := by
  unfold byteOf
  congr 2
  have hs : k = 0 ∨ k = 1 ∨ k = 2 ∨ k = 3 ∨ k = 4 ∨ k = 5 ∨ k = 6 ∨ k = 7 := by omega
  rcases hs with rfl | rfl | rfl | rfl | rfl | rfl | rfl | rfl <;> simp only [Int.reducePow] <;> omega
theorem wide_mod (n : Int) (m : Nat) (hm : m ≤ 8) : wide (n % 18446744073709551616) m = wide n m := by
  unfold wide
  apply List.map_congr_left
  intro k hk
  have : k < m := by simpa using hk
  exact byteOf_mod n k (by omega)
/-- What PutWide hands back. -/
def pw (n m : Int) : List UInt8 := if 1 ≤ m ∧ m ≤ 8 then wide n m.toNat else []

set_option maxHeartbeats 1000000 in
theorem specPutWide (n m : Int) (w : World) (h0 : -9223372036854775808 ≤ n ∧ n ≤ 9223372036854775807) :
    Calls Try.prog 19 #[.int .i64 n, .int .i64 m] w fun e w' => e = .returned (.string (str (pw n m))) ∧ Below w.heap.size w w' := by
  by_cases h : 1 ≤ m ∧ m ≤ 8
  · obtain ⟨k, rfl⟩ := Int.eq_ofNat_of_zero_le (show 0 ≤ m by omega)
    have hk : k ≤ 8 := by omega
    have hp : pw n k = wide n k := by unfold pw; rw [if_pos h, Int.toNat_natCast]
    rw [hp]
    have hd : decide ((k : Int) ≤ 8) = true := by simp; omega
    have hd1 : decide (1 ≤ (k : Int)) = true := by simp; omega
    have hq : n % 18446744073709551616 = (((n % 18446744073709551616).toNat : Nat) : Int) := by omega
    have hq2 : (n % 18446744073709551616).toNat < 18446744073709551616 := by omega
    have HC : ∀ w, Calls Try.prog 37 #[.int .u64 (n % 18446744073709551616), .int .i64 k] w fun e w' => e = .returned (.string (str (wide n k))) ∧ Below w.heap.size w w' := by
      intro w
      rw [← wide_mod n k hk, hq]
      exact specL05Big _ k w hq2 hk
    have HD := Lib.hid HC
    clear HC hq hq2 hp
    go_enter Try.func19, Try.ntmps19
    go_wp2_with (first | (go_at_call 37; refine (HD.out _).mono ?_; rintro e w1 ⟨rfl, hb1⟩) | go_in)
    go_ret
    exact ⟨rfl, hb1⟩
  · have hp : pw n m = [] := by unfold pw; rw [if_neg h]
    rw [hp]
    clear hp
    rcases (show decide (1 ≤ m) = false ∨ (decide (1 ≤ m) = true ∧ decide (m ≤ 8) = false) by simp; omega) with hc | hc
    all_goals
      clear h
      go_enter Try.func19, Try.ntmps19
      go_wp2_with go_in
      go_ret
      exact ⟨rfl, Below.refl _ _⟩

set_option maxHeartbeats 1000000 in
theorem implPutWide (n m : Int) (w : World) (h0 : -9223372036854775808 ≤ n ∧ n ≤ 9223372036854775807) :
    Calls Try.prog 20 #[.int .i64 n, .int .i64 m] w fun e w' => e = .returned (.string (str (pw n m))) ∧ Below w.heap.size w w' := by
  by_cases h : 1 ≤ m ∧ m ≤ 8
  · obtain ⟨k, rfl⟩ := Int.eq_ofNat_of_zero_le (show 0 ≤ m by omega)
    have hp : pw n k = wide n k := by unfold pw; rw [if_pos h, Int.toNat_natCast]
    rw [hp]
    exact implPutWide_yes n k w h0 (by omega) (by omega)
  · have hp : pw n m = [] := by unfold pw; rw [if_neg h]
    rw [hp]
    clear hp
    rcases (show decide (1 ≤ m) = false ∨ (decide (1 ≤ m) = true ∧ decide (m ≤ 8) = false) by simp; omega) with hc | hc
    all_goals
      clear h
      go_enter Try.func20, Try.ntmps20
      go_wp2_with go_in
      go_ret
      exact ⟨rfl, Below.refl _ _⟩
end Go.Proofs.Ytiffgiabnjdeoaa
