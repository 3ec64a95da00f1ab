/-
  GetHead of the reference: a head is read.
-/
import Derived.Test.YtmfogabkpeoagaaGetHeadP
import Derived.BigQuiet
namespace Go.Proofs.Ytmfogabkpeoagaa
open Go.RowKit
set_option linter.unusedVariables false

theorem ahRet_no {s : ByteArray} {i : Int} (h : ¬ ahOk s i) : ahRet s i = .tuple #[.int .i64 (-1), .int .u64 0, .int .i64 (-1)] := by unfold ahRet; rw [if_neg h]
theorem ahRet_small {s : ByteArray} {i : Nat} (hi : i < s.size) (h : s[i].toNat % 32 < 24) : ahRet s i = .tuple #[.int .i64 (s[i].toNat / 32 : Nat), .int .u64 (s[i].toNat % 32 : Nat), .int .i64 (i + 1)] := by
  rw [get_get!' s i hi] at *
  have hm : ahM (s.get! i).toNat = 0 := by unfold ahM; rw [if_pos h]
  have hok : ahOk s (i : Int) := by
    unfold ahOk
    rw [Int.toNat_natCast, hm]
    exact ⟨by omega, by omega, by omega, by omega⟩
  unfold ahRet
  rw [if_pos hok, Int.toNat_natCast, hm]
  unfold ahN
  rw [if_pos h]
  simp
theorem ahRet_wide {s : ByteArray} {i k : Nat} (hi : i < s.size) (h : s[i].toNat % 32 = 24 + k) (hk : k < 4) (hm : i + 1 + 2 ^ k ≤ s.size) :
    ahRet s i = .tuple #[.int .i64 (s[i].toNat / 32 : Nat), .int .u64 (big (piece s (i + 1) (2 ^ k)) : Nat), .int .i64 (i + 1 + (2 ^ k : Nat))] := by
  rw [get_get!' s i hi] at *
  have hM : ahM (s.get! i).toNat = 2 ^ k := by unfold ahM; rw [if_neg (by omega), h]; congr 1; omega
  have hok : ahOk s (i : Int) := by
    unfold ahOk
    rw [Int.toNat_natCast, hM]
    exact ⟨by omega, by omega, by omega, by exact_mod_cast hm⟩
  unfold ahRet
  rw [if_pos hok, Int.toNat_natCast, hM]
  unfold ahN
  rw [if_neg (by omega), hM]
theorem ahOk_not_wide {s : ByteArray} {i k : Nat} (hi : i < s.size) (h : s[i].toNat % 32 = 24 + k) (hm : s.size < i + 1 + 2 ^ k) : ¬ ahOk s i := by
  rw [get_get!' s i hi] at *
  have hM : ahM (s.get! i).toNat = 2 ^ k := by unfold ahM; rw [if_neg (by omega), h]; congr 1; omega
  unfold ahOk
  rw [Int.toNat_natCast, hM]
  intro hh
  have := hh.2.2.2
  omega
theorem ahOk_not_big {s : ByteArray} {i : Nat} (hi : i < s.size) (h : 27 < s[i].toNat % 32) : ¬ ahOk s i := by
  rw [get_get!' s i hi] at *
  unfold ahOk
  rw [Int.toNat_natCast]
  intro hh
  have := hh.2.2.1
  omega
theorem big_next (s : ByteArray) (i q : Nat) (h1 : 1 ≤ q) (h : i + q < s.size) : big (piece s (i + 1) (q + 1 - 1)) = 256 * big (piece s (i + 1) (q - 1)) + s[i + q].toNat := by
  obtain ⟨j, rfl⟩ : ∃ j, q = j + 1 := ⟨q - 1, by omega⟩
  have e : j + 1 + 1 - 1 = j + 1 := by omega
  rw [e, piece_succ s (i + 1) j (by omega), big_snoc, Nat.add_sub_cancel]
  congr 2
  simp only [show i + 1 + j = i + (j + 1) by omega]
theorem tup3 {a a' b b' c c' : Int} (h1 : a = a') (h2 : b = b') (h3 : c = c') : Ending.returned (.tuple #[.int .i64 a, .int .u64 b, .int .i64 c]) = Ending.returned (.tuple #[.int .i64 a', .int .u64 b', .int .i64 c']) := by rw [h1, h2, h3]

set_option maxHeartbeats 1000000 in
theorem specAny_out (s : ByteArray) (i : Int) (w : World) (hs : s.size ≤ 1048576) (h : ¬ (0 ≤ i ∧ i < s.size)) :
    Calls Try.prog 16 #[.string s, .int .i64 i] w fun e w' => e = .returned (ahRet s i) ∧ Below w.heap.size w w' := by
  have HN := Lib.hid (ahRet_no (s := s) (i := i) (fun hh => h ⟨hh.1, hh.2.1⟩))
  by_cases h0 : i < 0
  · clear h
    go_enter Try.func16, Try.ntmps16
    go_wp2_with fail
    go_ret3
    exact ⟨congrArg Ending.returned HN.out.symm, Below.refl _ _⟩
  · have h1 : (s.size : Int) ≤ i := by omega
    clear h
    go_enter Try.func16, Try.ntmps16
    go_wp2_with fail
    go_ret3
    exact ⟨congrArg Ending.returned HN.out.symm, Below.refl _ _⟩

set_option maxHeartbeats 1000000 in
theorem specAny_small (s : ByteArray) (i : Nat) (w : World) (hs : s.size ≤ 1048576) (hi : i < s.size) (h : s[i].toNat % 32 < 24) :
    Calls Try.prog 16 #[.string s, .int .i64 i] w fun e w' => e = .returned (ahRet s i) ∧ Below w.heap.size w w' := by
  have HN := Lib.hid (ahRet_small hi h)
  have hu : s[i].toNat < 256 := UInt8.toNat_lt _
  go_enter Try.func16, Try.ntmps16
  go_wp2_with fail
  go_quiet (fail)
  go_wp2_with fail
  go_ret3
  exact ⟨by rw [HN.out]; exact tup3 (by go_num) (by go_num) (by go_num), by first | exact Below.refl _ _ | exact below_drewN (Below.refl _ _) _⟩

set_option maxHeartbeats 1000000 in
theorem specAny_big (s : ByteArray) (i : Nat) (w : World) (hs : s.size ≤ 1048576) (hi : i < s.size) (h : 27 < s[i].toNat % 32) :
    Calls Try.prog 16 #[.string s, .int .i64 i] w fun e w' => e = .returned (ahRet s i) ∧ Below w.heap.size w w' := by
  have HN := Lib.hid (ahRet_no (ahOk_not_big hi h))
  have hu : s[i].toNat < 256 := UInt8.toNat_lt _
  go_enter Try.func16, Try.ntmps16
  go_wp2_with fail
  go_quiet (fail)
  go_wp2_with fail
  go_ret3
  exact ⟨congrArg Ending.returned HN.out.symm, by first | exact Below.refl _ _ | exact below_drewN (Below.refl _ _) _⟩

set_option maxHeartbeats 2000000 in
theorem specAny_wide (s : ByteArray) (i k : Nat) (w : World) (hs : s.size ≤ 1048576) (hi : i < s.size) (h : s[i].toNat % 32 = 24 + k) (hk : k < 4) :
    Calls Try.prog 16 #[.string s, .int .i64 i] w fun e w' => e = .returned (ahRet s i) ∧ Below w.heap.size w w' := by
  have hu : s[i].toNat < 256 := UInt8.toNat_lt _
  have hk4 : 1 ≤ 2 ^ k ∧ 2 ^ k ≤ 8 := by
    constructor
    · exact Nat.one_le_two_pow
    · exact Nat.pow_le_pow_right (n := 2) (by omega) (show k ≤ 3 by omega)
  have HC : Hid (∀ nq, ((w.drewN nq).alloc (.cells #[.int .i64 1, .int .i64 2, .int .i64 4, .int .i64 8] 3)).cell? ⟨w.heap.size, (k : Nat), none⟩ = some (.int .i64 ((2 ^ k : Nat) : Int))) := by
    refine Lib.hid fun nq => ?_
    have := cells_new (w.drewN nq) #[.int .i64 1, .int .i64 2, .int .i64 4, .int .i64 8] 3 k (.int .i64 ((2 ^ k : Nat) : Int)) (by rcases (show k = 0 ∨ k = 1 ∨ k = 2 ∨ k = 3 by omega) with rfl | rfl | rfl | rfl <;> rfl)
    rw [Addr.add_lit, Nat.zero_add] at this
    exact this
  generalize HP : 2 ^ k = m at *
  have HN := Lib.hid (fun hm : i + 1 + m ≤ s.size => ahRet_wide hi h hk (by rw [HP]; exact hm))
  have HX := Lib.hid (fun hm : s.size < i + 1 + m => ahRet_no (ahOk_not_wide hi h (by rw [HP]; exact hm)))
  rw [HP] at HN
  clear HP
  have hlo : 24 ≤ s[i].toNat % 32 ∧ s[i].toNat % 32 ≤ 27 := ⟨by omega, by omega⟩
  obtain rfl : k = s[i].toNat % 32 - 24 := by omega
  clear h hk
  have hge : decide (s.size ≤ i) = false := decide_eq_false (by omega)
  have hge2 : decide ((i : Int) < 0) = false := decide_eq_false (by omega)
  have hge3 : decide ((s[i].toNat : Int) % 32 < 24) = false := decide_eq_false (by omega)
  have hge4 : decide (27 < (s[i].toNat : Int) % 32) = false := decide_eq_false (by omega)
  by_cases hm : i + 1 + m ≤ s.size
  · have hge5 : decide ((s.size : Int) - i - 1 < m) = false := decide_eq_false (by omega)
    go_enter Try.func16, Try.ntmps16
    go_wp2_with fail
    go_quiet (fail)
    have hcq := HC.out nq
    have hbq := below_drewN (Below.refl w.heap.size w) nq
    have hsz : (w.drewN nq).heap.size = w.heap.size := rfl
    generalize w.drewN nq = wq at *
    go_wp2_with fail
    go_loop [10, 11] (fun n k => ∃ q : Nat, 1 ≤ q ∧ q ≤ m + 1 ∧ k = .int .i64 q ∧ n = .int .u64 (big (piece s (i + 1) (q - 1)))) (fun _ k => m + 1 - (intOf k).toNat)
    case atStart => exact ⟨1, by omega, by omega, rfl, rfl⟩
    case round =>
      obtain ⟨q, hq1, hq, rfl, rfl⟩ := hrel
      by_cases hlt : q ≤ m
      · have hB := big_piece_lt s (i + 1) (q - 1) (by omega) (by omega)
        have hu2 : s[i + q].toNat < 256 := UInt8.toNat_lt _
        have HS := Lib.hid (big_next s i q hq1 (by omega))
        generalize big (piece s (i + 1) (q - 1)) = B at *
        go_wp2_with fail
        go_round
        case rel => exact ⟨q + 1, by omega, by omega, by go_num, by rw [HS.out]; go_num⟩
        case measure => simp [intOf]; omega
      · obtain rfl : q = m + 1 := by omega
        have hl8 := big_lt8 (piece s (i + 1) m) (by rw [piece_len _ _ _ (by omega)]; omega)
        have hy := HN.out hm
        rw [show m + 1 - 1 = m by omega]
        have HY := Lib.hid hy
        clear hy
        generalize big (piece s (i + 1) m) = B at *
        go_wp2_with fail
        go_ret3
        exact ⟨by rw [HY.out]; exact tup3 (by go_num) (by go_num) (by go_num), hbq.alloc hbq.size _⟩
  · go_enter Try.func16, Try.ntmps16
    go_wp2_with fail
    go_quiet (fail)
    have hcq := HC.out nq
    have hbq := below_drewN (Below.refl w.heap.size w) nq
    have hsz : (w.drewN nq).heap.size = w.heap.size := rfl
    generalize w.drewN nq = wq at *
    go_wp2_with fail
    go_ret3
    exact ⟨congrArg Ending.returned (HX.out (by omega)).symm, hbq.alloc hbq.size _⟩
theorem specAny (s : ByteArray) (i : Int) (w : World) (hs : s.size ≤ 1048576) :
    Calls Try.prog 16 #[.string s, .int .i64 i] w fun e w' => e = .returned (ahRet s i) ∧ Below w.heap.size w w' := by
  by_cases h : 0 ≤ i ∧ i < s.size
  · obtain ⟨i, rfl⟩ := Int.eq_ofNat_of_zero_le h.1
    have hi : i < s.size := by omega
    by_cases h1 : s[i].toNat % 32 < 24
    · exact specAny_small s i w hs hi h1
    · by_cases h2 : 27 < s[i].toNat % 32
      · exact specAny_big s i w hs hi h2
      · exact specAny_wide s i (s[i].toNat % 32 - 24) w hs hi (by omega) (by omega)
  · exact specAny_out s i w hs h
end Go.Proofs.Ytmfogabkpeoagaa
