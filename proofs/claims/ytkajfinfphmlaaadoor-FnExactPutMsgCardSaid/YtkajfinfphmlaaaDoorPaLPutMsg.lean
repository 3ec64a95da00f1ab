/-
  The texts on which the last one leans, part 1.
-/
import Derived.Test.YtkajfinfphmlaaaDoorOk
import Derived.Laws.Bits64
import Derived.Deep.LoopGhost
import Derived.Deep.RegionWith
import Derived.Test.YtkajfinfphmlaaaDoorShelfB
import Derived.Deep.RegionHeld3
import Derived.OneCell
import Derived.Shelf.Abstract
import Derived.Handy
import Derived.Lib.FrozenHead2
/-
  GetWide and PutWide, plainly: numbers of up to eight bytes, the highest first.
-/
namespace Go.Proofs.YtkajfinfphmlaaaDoor
open Go.RowKit

/-- The number of some bytes. -/
def big (l : List UInt8) : Nat := l.foldl (fun n b => 256 * n + b.toNat) 0
theorem big_snoc (l : List UInt8) (b : UInt8) : big (l ++ [b]) = 256 * big l + b.toNat := by simp [big]

theorem big_fold (l : List UInt8) : ∀ a : Nat, l.foldl (fun n b => 256 * n + b.toNat) a < (a + 1) * 256 ^ l.length := by
  induction l with
  | nil => intro a; simp
  | cons b l ih =>
    intro a
    have hb : b.toNat < 256 := UInt8.toNat_lt b
    have h := ih (256 * a + b.toNat)
    simp only [List.foldl_cons, List.length_cons, Nat.pow_succ]
    refine Nat.lt_of_lt_of_le h ?_
    rw [Nat.mul_comm (256 ^ l.length) 256, ← Nat.mul_assoc]
    exact Nat.mul_le_mul_right _ (by omega)
theorem big_lt (l : List UInt8) : big l < 256 ^ l.length := by
  have := big_fold l 0
  simpa [big] using this
theorem big_piece_lt (s : ByteArray) (i n : Nat) (h : i + n ≤ s.size) (hn : n ≤ 7) : big (piece s i n) < 72057594037927936 := by
  have h1 := big_lt (piece s i n)
  rw [piece_len s i n h] at h1
  have h2 : 256 ^ n ≤ 256 ^ 7 := Nat.pow_le_pow_right (by omega) hn
  omega
theorem ofInt_wrap (z : Int) (n : Nat) (h : z % 18446744073709551616 = (n : Int) % 18446744073709551616) : (BitVec.ofInt 64 z).toNat = n % 18446744073709551616 := by
  rw [BitVec.toNat_ofInt]
  omega
theorem i64_step (B b : Nat) (hb : b < 256) : bits .or .i64 (wrap64 (i64of B * 256)) (b : Int) = i64of (256 * B + b) := by
  unfold bits i64of
  have h1 := ofInt_wrap (wrap64 (wrap64 (B : Int) * 256)) (256 * B) (by rw [wrap64_eq, wrap64_eq]; omega)
  have h2 := ofInt_wrap (b : Int) b rfl
  have h3 : (256 * B) % 18446744073709551616 ||| b % 18446744073709551616 = (256 * B + b) % 18446744073709551616 := by
    have e1 : (256 * B) % 18446744073709551616 = (B % 72057594037927936) <<< 8 := by rw [Nat.shiftLeft_eq]; omega
    have e2 : b % 18446744073709551616 = b := by omega
    rw [e1, e2, ← Nat.shiftLeft_add_eq_or_of_lt (by omega), Nat.shiftLeft_eq]
    omega
  show IntKind.i64.wrap ((BitVec.ofInt 64 (wrap64 (wrap64 (B : Int) * 256)) ||| BitVec.ofInt 64 (b : Int)).toNat : Int) = _
  rw [BitVec.toNat_or, h1, h2, h3, IntKind.wrap_i64, wrap64_eq]
  omega

def gwOk (s : ByteArray) (i m : Int) : Prop := 1 ≤ m ∧ m ≤ 8 ∧ 0 ≤ i ∧ i ≤ s.size - m
instance (s : ByteArray) (i m : Int) : Decidable (gwOk s i m) := by unfold gwOk; infer_instance
/-- What GetWide hands back. -/
def gwN (s : ByteArray) (i m : Int) : Int := if gwOk s i m then i64of (big (piece s i.toNat m.toNat)) else 0
def gwB (s : ByteArray) (i m : Int) : Bool := decide (gwOk s i m)

end Go.Proofs.YtkajfinfphmlaaaDoor

/-
  PutWide: the bytes of a number, the highest first.
-/
namespace Go.Proofs.YtkajfinfphmlaaaDoor
open Go.RowKit
set_option linter.unusedVariables false

/-- Byte number k of a number, counted from the lowest. -/
def byteOf (n : Int) (k : Nat) : UInt8 := UInt8.ofNat ((n / (256 : Int) ^ k) % 256).toNat
/-- The m lowest bytes of a number, the highest first. -/
def wide (n : Int) (m : Nat) : List UInt8 := (List.range m).reverse.map (byteOf n)
theorem wide_succ (n : Int) (m : Nat) : wide n (m + 1) = byteOf n m :: wide n m := by
  simp [wide, List.range_succ]
theorem wide_len (n : Int) (m : Nat) : (wide n m).length = m := by simp [wide]
/-- What has been written when the bytes from m - 1 down to k have been. -/
theorem wide_take (n : Int) (m t : Nat) (h : t < m) : (wide n m).take (t + 1) = (wide n m).take t ++ [byteOf n (m - 1 - t)] := by
  have hl : t < (wide n m).length := by rw [wide_len]; exact h
  rw [List.take_succ_eq_append_getElem hl]
  congr 2
  simp [wide]
theorem own_cells {w : World} {base : Nat} {e : TypeId} {g c n : Nat} {xs : List Value} (h : w.ownsRow base e 1 (.slice (some ⟨g, 0, none⟩) n c) n xs) : ∀ (j : Nat) (u : Value), xs[j]? = some u → w.cell? ((⟨g, 0, none⟩ : Addr).add j) = some u :=
  h.cells rfl
theorem own_form {w : World} {base : Nat} {e : TypeId} {v : Value} {n : Nat} {xs : List Value} (h : w.ownsRow base e 1 v n xs) (hn : 0 < n) : ∃ g c, v = .slice (some ⟨g, 0, none⟩) n c := by
  rcases h.2 with ⟨_, h0⟩ | ⟨g, c, _, hv, _⟩
  · omega
  · exact ⟨g, c, hv⟩
theorem byteOf_nat (n k : Nat) : ((byteOf n k).toNat : Int) = ((n / 256 ^ k : Nat) : Int) % 256 := by
  unfold byteOf
  have e : ((n : Int) / (256 : Int) ^ k) = ((n / 256 ^ k : Nat) : Int) := by simp
  rw [e, UInt8.toNat_ofNat']
  omega
theorem byte_spec (n k : Nat) : Value.int .u8 (((n : Int) / 256 ^ k).tmod 256 % 256) = bv (byteOf n k) := by
  unfold bv
  rw [byteOf_nat, show ((n : Int) / 256 ^ k) = ((n / 256 ^ k : Nat) : Int) by simp]
  generalize n / 256 ^ k = x
  rw [Int.tmod_eq_emod_of_nonneg (by omega)]
  congr 1
  omega
theorem div_spec (n k : Nat) (hn : n < 18446744073709551616) : IntKind.u64.wrap (((n : Int) / 256 ^ k).tdiv 256) = ((n / 256 ^ (k + 1) : Nat) : Int) := by
  rw [Nat.pow_succ, ← Nat.div_div_eq_div_mul, show ((n : Int) / 256 ^ k) = ((n / 256 ^ k : Nat) : Int) by simp]
  have h : n / 256 ^ k ≤ n := Nat.div_le_self _ _
  generalize n / 256 ^ k = x at *
  rw [Int.tdiv_eq_ediv_of_nonneg (by omega), IntKind.wrap_u64]
  omega
theorem byte_impl (n : Int) (k : Nat) : Value.int .u8 (n / 2 ^ (8 * k) % 256) = bv (byteOf n k) := by
  have e : (2 : Int) ^ (8 * k) = 256 ^ k := by rw [Int.pow_mul]; rfl
  rw [e]
  unfold bv byteOf
  rw [UInt8.toNat_ofNat']
  congr 1
  generalize n / 256 ^ k = x
  omega

set_option maxHeartbeats 1000000 in
theorem byteOf_mod (n : Int) (k : Nat) (hk : k < 8) : byteOf (n % 18446744073709551616) k = byteOf n k := by
  unfold byteOf
  congr 2
  have hs : k = 0 ∨ k = 1 ∨ k = 2 ∨ k = 3 ∨ k = 4 ∨ k = 5 ∨ k = 6 ∨ k = 7 := by omega
  rcases hs with rfl | rfl | rfl | rfl | rfl | rfl | rfl | rfl <;> simp only [Int.reducePow] <;> omega
theorem wide_mod (n : Int) (m : Nat) (hm : m ≤ 8) : wide (n % 18446744073709551616) m = wide n m := by
  unfold wide
  apply List.map_congr_left
  intro k hk
  have : k < m := by simpa using hk
  exact byteOf_mod n k (by omega)
/-- What PutWide hands back. -/
def pw (n m : Int) : List UInt8 := if 1 ≤ m ∧ m ≤ 8 then wide n m.toNat else []

end Go.Proofs.YtkajfinfphmlaaaDoor

/-
  l05Big of the reference: the bytes of a number, the highest first.
-/
namespace Go.Proofs.YtkajfinfphmlaaaDoor
open Go.RowKit
set_option linter.unusedVariables false
set_option maxRecDepth 100000

set_option maxHeartbeats 1000000 in
theorem specL05Big (n m : Nat) (w : World) (hn : n < 18446744073709551616) (hm : m ≤ 8) :
    Calls Tryd.prog 50 #[.int .u64 n, .int .i64 m] w fun e w' => e = .returned (.string (str (wide n m))) ∧ Below w.heap.size w w' := by
  go_enter Tryd.func50, Tryd.ntmps50
  go_wp2
  go_loopw [0, 5, 6] (fun x v i wr => ∃ k : Nat, k ≤ m ∧ i = .int .i64 k ∧ x = .int .u64 ((n / 256 ^ k : Nat) : Int) ∧ (∃ g c, v = .slice (some ⟨g, 0, none⟩) k c) ∧ wr.ownsRow w.heap.size 5 1 v k ((wide n k).map bv) ∧ Below w.heap.size w wr)
    (fun _ _ i _ => m - (intOf i).toNat)
  case atStart => exact ⟨0, Nat.zero_le _, rfl, by simp, ⟨_, _, rfl⟩, own_empty w _ _, (Below.refl _ _).alloc (Nat.le_refl _) _⟩
  case round =>
    obtain ⟨k, hk, rfl, rfl, ⟨g, c, rfl⟩, hown, hb⟩ := hrel
    by_cases hlt : k < m
    · go_wp2_with (at_builtin; refine wpList_app rfl (.tmp 16) (.tmp 17) 38 rfl w.heap.size 5 Tryd.underlying38 infoU8 rfl (by decide) rfl (own_lit1 wr _ _ hb.size) (hb.alloc hb.size _) (Nat.le_trans hb.size (by simp)) _ k c _ rfl (by simp [wide_len]) (own_cells (hown.alloc _)) (bv_one (wide n k)) (by unfold maxLen; omega) (by omega) ?_; intro v' w' hown' hb' hB'; obtain ⟨g', c', rfl⟩ := own_form hown' (by omega))
      rw [byte_spec] at hown'
      have HX : Hid (IntKind.u64.wrap (((n : Int) / 256 ^ k).tdiv 256) = ((n / 256 ^ (k + 1) : Nat) : Int)) := div_spec n k hn
      go_wp2
      go_roundw
      case rel => exact ⟨k + 1, by omega, by go_num, by rw [HX.out], ⟨g', c', by rw [Nat.add_comm k 1]⟩, by rw [wide_succ, Nat.add_comm k 1]; exact hown', hb'⟩
      case measure => simp [intOf]; omega
    · obtain rfl : k = m := by omega
      have hcv := run_string_own (P := Tryd.prog) 38 9 5 Tryd.underlying38 Tryd.underlying5 Tryd.underlying9 hown
      clear hown
      go_wp2
      go_ret
      exact ⟨rfl, hb⟩
end Go.Proofs.YtkajfinfphmlaaaDoor

/-
  PutWide of the reference: the bytes of a number, the highest first.
-/
namespace Go.Proofs.YtkajfinfphmlaaaDoor
open Go.RowKit
set_option linter.unusedVariables false

set_option maxHeartbeats 1000000 in
theorem specPutWide (n m : Int) (w : World) (h0 : -9223372036854775808 ≤ n ∧ n ≤ 9223372036854775807) :
    Calls Tryd.prog 33 #[.int .i64 n, .int .i64 m] w fun e w' => e = .returned (.string (str (pw n m))) ∧ Below w.heap.size w w' := by
  by_cases h : 1 ≤ m ∧ m ≤ 8
  · obtain ⟨k, rfl⟩ := Int.eq_ofNat_of_zero_le (show 0 ≤ m by omega)
    have hk : k ≤ 8 := by omega
    have hp : pw n k = wide n k := by unfold pw; rw [if_pos h, Int.toNat_natCast]
    rw [hp]
    have hd : decide ((k : Int) ≤ 8) = true := by simp; omega
    have hd1 : decide (1 ≤ (k : Int)) = true := by simp; omega
    have hq : n % 18446744073709551616 = (((n % 18446744073709551616).toNat : Nat) : Int) := by omega
    have hq2 : (n % 18446744073709551616).toNat < 18446744073709551616 := by omega
    have HC : ∀ w, Calls Tryd.prog 50 #[.int .u64 (n % 18446744073709551616), .int .i64 k] w fun e w' => e = .returned (.string (str (wide n k))) ∧ Below w.heap.size w w' := by
      intro w
      rw [← wide_mod n k hk, hq]
      exact specL05Big _ k w hq2 hk
    have HD := Lib.hid HC
    clear HC hq hq2 hp
    go_enter Tryd.func33, Tryd.ntmps33
    go_wp2_with (first | (go_at_call 50; refine (HD.out _).mono ?_; rintro e w1 ⟨rfl, hb1⟩) | go_in)
    go_ret
    exact ⟨rfl, hb1⟩
  · have hp : pw n m = [] := by unfold pw; rw [if_neg h]
    rw [hp]
    clear hp
    rcases (show decide (1 ≤ m) = false ∨ (decide (1 ≤ m) = true ∧ decide (m ≤ 8) = false) by simp; omega) with hc | hc
    all_goals
      clear h
      go_enter Tryd.func33, Tryd.ntmps33
      go_wp2_with go_in
      go_ret
      exact ⟨rfl, Below.refl _ _⟩
end Go.Proofs.YtkajfinfphmlaaaDoor

/-
  PutHead, plainly: the head of a CBOR item.
-/
namespace Go.Proofs.YtkajfinfphmlaaaDoor
open Go.RowKit
set_option linter.unusedVariables false

/-- The head of major type M and number n. -/
def headL (M n : Nat) : List UInt8 :=
  if n < 24 then wide (32 * M + n : Nat) 1 else if n < 256 then wide (32 * M + 24 : Nat) 1 ++ wide n 1 else if n < 65536 then wide (32 * M + 25 : Nat) 1 ++ wide n 2
  else if n < 4294967296 then wide (32 * M + 26 : Nat) 1 ++ wide n 4 else wide (32 * M + 27 : Nat) 1 ++ wide n 8
/-- What PutHead hands back. -/
def putHeadL (M : Int) (n : Nat) : List UInt8 := if 0 ≤ M ∧ M ≤ 7 then headL M.toNat n else []
theorem size_str (l : List UInt8) : (str l).size = l.length := by simp [str, ByteArray.size]
theorem str_add (a b : List UInt8) : str a ++ str b = str (a ++ b) := by
  apply ByteArray.ext
  simp [str]
theorem str_sum {P : Program} (a b : List UInt8) (h : a.length + b.length ≤ 9223372036854775807) (w : World) : (Op.stringOp .add (str a) (str b)).run P w = .ok (.string (str (a ++ b))) w := by
  rw [run_string_add_sum _ _ _ (by rw [size_str, size_str]; exact h), str_add]
theorem wide_sum {P : Program} (x y : Int) (i j : Nat) (h : i + j ≤ 16) (w : World) : (Op.stringOp .add (str (wide x i)) (str (wide y j))).run P w = .ok (.string (str (wide x i ++ wide y j))) w :=
  str_sum _ _ (by rw [wide_len, wide_len]; omega) w
/-- A text under a name, which the walk doesn't look into. -/
def Named (x : ByteArray) (l : List UInt8) : Prop := x = str l
theorem Named.mk {x : ByteArray} {l : List UInt8} (h : x = str l) : Named x l := h
theorem named_add {x y : ByteArray} {a b : List UInt8} (h1 : Named x a) (h2 : Named y b) : x ++ y = str (a ++ b) := by
  unfold Named at h1 h2
  rw [h1, h2, str_add]
theorem wide_one (n : Nat) (h : n < 256) : wide (n : Int) 1 = [UInt8.ofNat (n : Int).toNat] := by
  unfold wide byteOf
  simp only [List.range_succ, List.range_zero, List.nil_append, List.reverse_cons, List.reverse_nil, List.map_cons, List.map_nil, Int.pow_zero, Int.ediv_one]
  congr 2
  omega
theorem lit1_of {P : Program} (src dst e : TypeId) (hs : P.underlying src = some (.slice e)) (he : P.underlying e = some (.int .u8)) (hd : P.underlying dst = some .string) {W : World} {b : Nat} {a : Int} (hc : W.cell? ⟨b, 0, none⟩ = some (.int .u8 a)) :
    (convert src dst (.slice (some ⟨b, 0, none⟩) 1 1)).run P W = .ok (.string (str [byteI a])) W := by
  rw [run_convert_bytes_string _ src dst e _ _ _ hs he hd]
  have hl := run_loadCells_list (P := P) W ⟨b, 0, none⟩ ([a].map (Value.int .u8)) (fun j v hj => by
    match j, hj with
    | 0, hj =>
      simp at hj
      subst hj
      rw [Addr.add_lit]
      exact hc)
  simp only [List.length_map] at hl
  exact run_bytesToString _ _ 1 1 [a] hl
theorem lit1_drew {P : Program} (src dst e : TypeId) (hs : P.underlying src = some (.slice e)) (he : P.underlying e = some (.int .u8)) (hd : P.underlying dst = some .string) (w : World) (a : Int) :
    (convert src dst (.slice (some ⟨w.heap.size, 0, none⟩) 1 1)).run P ((w.alloc (.cells #[.int .u8 a] e)).drew) = .ok (.string (str [byteI a])) ((w.alloc (.cells #[.int .u8 a] e)).drew) :=
  lit1_of src dst e hs he hd (cells_newD w #[.int .u8 a] e 0 _ rfl)
theorem lit1_after {P : Program} (src dst e : TypeId) (hs : P.underlying src = some (.slice e)) (he : P.underlying e = some (.int .u8)) (hd : P.underlying dst = some .string) {w w1 : World} {a : Int}
    (hb : Below (w.alloc (.cells #[.int .u8 a] e)).drew.heap.size (w.alloc (.cells #[.int .u8 a] e)).drew w1) :
    (convert src dst (.slice (some ⟨w.heap.size, 0, none⟩) 1 1)).run P w1 = .ok (.string (str [byteI a])) w1 :=
  lit1_of src dst e hs he hd ((hb.cell (p := ⟨w.heap.size, 0, none⟩) (by show w.heap.size < (w.alloc _).heap.size; simp)).trans (cells_newD w #[.int .u8 a] e 0 _ rfl))
theorem lit_named (M c : Nat) (x : Int) (h : x = ((32 * M + c : Nat) : Int)) (hlt : 32 * M + c < 256) : Named (str [byteI x]) (wide ((32 * M + c : Nat) : Int) 1) := by
  subst h
  exact congrArg str (wide_one _ hlt).symm
theorem bl_1 {w w1 : World} {o : Obj} (hb1 : Below ((w.alloc o).drew).heap.size ((w.alloc o).drew) w1) : Below w.heap.size w w1 :=
  (((Below.refl _ w).alloc (Nat.le_refl _) o).drew).trans (hb1.mono (by show w.heap.size ≤ (w.alloc o).heap.size; simp))
theorem bl_2 {w w1 : World} {o : Obj} (hb1 : Below w.drew.heap.size w.drew w1) : Below w.heap.size w (w1.alloc o) :=
  have h : Below w.heap.size w w1 := ((Below.refl _ w).drew).trans hb1
  h.alloc h.size o
theorem wide_wrap (n m : Nat) (hm : m ≤ 8) : wide (wrap64 (n : Int)) m = wide (n : Int) m := by
  rw [← wide_mod _ m hm, ← wide_mod (n : Int) m hm]
  congr 1
  rw [wrap64_eq]; omega
end Go.Proofs.YtkajfinfphmlaaaDoor

/-
  The reference's numbers and lengths of a message.
-/
namespace Go.Proofs.YtkajfinfphmlaaaDoor
open Go.RowKit
set_option linter.unusedVariables false
set_option linter.unusedSimpArgs false
set_option maxRecDepth 100000

/-- A number of a message. -/
def msgInt (n : Int) : List UInt8 :=
  if -32 ≤ n ∧ n ≤ 127 then wide n 1
  else if 0 ≤ n ∧ n ≤ 255 then 204 :: wide n 1
  else if 0 ≤ n ∧ n ≤ 65535 then 205 :: wide n 2
  else if 0 ≤ n ∧ n ≤ 4294967295 then 206 :: wide n 4
  else if 0 ≤ n then 207 :: wide n 8
  else if -128 ≤ n then 208 :: wide n 1
  else if -32768 ≤ n then 209 :: wide n 2
  else if -2147483648 ≤ n then 210 :: wide n 4
  else 211 :: wide n 8
/-- A length of a message. -/
def msgMany (n lim fix b8 b16 : Int) : List UInt8 :=
  if n < lim then wide (fix + n) 1
  else if n < 256 ∧ 0 < b8 then wide b8 1 ++ wide n 1
  else wide b16 1 ++ wide n 2
theorem specWideK (n : Int) (k : Nat) (w : World) (h0 : -9223372036854775808 ≤ n ∧ n ≤ 9223372036854775807) (h : 1 ≤ k ∧ k ≤ 8) :
    Calls Tryd.prog 33 #[.int .i64 n, .int .i64 (k : Int)] w fun e w' => e = .returned (.string (str (wide n k))) ∧ Below w.heap.size w w' := by
  have hp : pw n k = wide n k := by unfold pw; rw [if_pos (by omega), Int.toNat_natCast]
  have := specPutWide n k w h0
  rwa [hp] at this
theorem one_cons (b : UInt8) (l : List UInt8) : (⟨#[b]⟩ : ByteArray) ++ str l = str (b :: l) := str_add [b] l

set_option maxHeartbeats 1000000 in
theorem specMsgInt_0 (n : Int) (w : World) (h : -32 ≤ n ∧ n ≤ 127) : Calls Tryd.prog 32 #[.int .i64 n] w fun e w' => e = .returned (.string (str (msgInt n))) ∧ Below w.heap.size w w' := by
  have HE : Hid (msgInt n = wide n 1) := Lib.hid (by unfold msgInt;  rw [if_pos (by omega)])
  have HW := Lib.hid (specWideK n 1 w (by omega) (by omega))
  have t0 : decide (-32 ≤ n) = true := decide_eq_true (by omega)
  have t1 : decide (n ≤ 127) = true := decide_eq_true (by omega)
  have t3 : decide (n ≤ 255) = true := decide_eq_true (by omega)
  have t4 : decide (n ≤ 65535) = true := decide_eq_true (by omega)
  have t5 : decide (n ≤ 4294967295) = true := decide_eq_true (by omega)
  have t6 : decide (-128 ≤ n) = true := decide_eq_true (by omega)
  have t7 : decide (-32768 ≤ n) = true := decide_eq_true (by omega)
  have t8 : decide (-2147483648 ≤ n) = true := decide_eq_true (by omega)
  go_enter Tryd.func32, Tryd.ntmps32
  go_wp2_with (go_at_call 49; go_in)
  refine HW.out.mono ?_
  rintro e w1 ⟨rfl, hb1⟩
  go_wp2_with fail
  go_ret
  exact ⟨ret_eq (by rw [HE.out]; rfl), hb1⟩

set_option maxHeartbeats 1000000 in
theorem specMsgInt_1 (n : Int) (w : World) (h : 128 ≤ n ∧ n ≤ 255) : Calls Tryd.prog 32 #[.int .i64 n] w fun e w' => e = .returned (.string (str (msgInt n))) ∧ Below w.heap.size w w' := by
  have HE : Hid (msgInt n = 204 :: wide n 1) := Lib.hid (by unfold msgInt; rw [if_neg (by omega)]; rw [if_pos (by omega)])
  have HW := Lib.hid (specWideK n 1 w (by omega) (by omega))
  have t0 : decide (-32 ≤ n) = true := decide_eq_true (by omega)
  have t1 : decide (n ≤ 127) = false := decide_eq_false (by omega)
  have t2 : decide (0 ≤ n) = true := decide_eq_true (by omega)
  have t3 : decide (n ≤ 255) = true := decide_eq_true (by omega)
  have t4 : decide (n ≤ 65535) = true := decide_eq_true (by omega)
  have t5 : decide (n ≤ 4294967295) = true := decide_eq_true (by omega)
  have t6 : decide (-128 ≤ n) = true := decide_eq_true (by omega)
  have t7 : decide (-32768 ≤ n) = true := decide_eq_true (by omega)
  have t8 : decide (-2147483648 ≤ n) = true := decide_eq_true (by omega)
  go_enter Tryd.func32, Tryd.ntmps32
  go_wp2_with (go_at_call 49; go_in)
  refine HW.out.mono ?_
  rintro e w1 ⟨rfl, hb1⟩
  have hz : (str (wide n 1)).size ≤ 8 := by rw [size_str, wide_len]; omega
  have HJ : Hid ((⟨#[204]⟩ : ByteArray) ++ str (wide n 1) = str (msgInt n)) := Lib.hid (by rw [HE.out]; exact one_cons 204 _)
  obtain ⟨s, hs⟩ : ∃ s, str (wide n 1) = s := ⟨_, rfl⟩
  rw [hs] at hz HJ
  rw [hs]
  clear hs
  go_wp2_with fail
  go_ret
  exact ⟨ret_eq (congrArg Value.string HJ.out), hb1⟩

set_option maxHeartbeats 1000000 in
theorem specMsgInt_2 (n : Int) (w : World) (h : 256 ≤ n ∧ n ≤ 65535) : Calls Tryd.prog 32 #[.int .i64 n] w fun e w' => e = .returned (.string (str (msgInt n))) ∧ Below w.heap.size w w' := by
  have HE : Hid (msgInt n = 205 :: wide n 2) := Lib.hid (by unfold msgInt; rw [if_neg (by omega)]; rw [if_neg (by omega)]; rw [if_pos (by omega)])
  have HW := Lib.hid (specWideK n 2 w (by omega) (by omega))
  have t0 : decide (-32 ≤ n) = true := decide_eq_true (by omega)
  have t1 : decide (n ≤ 127) = false := decide_eq_false (by omega)
  have t2 : decide (0 ≤ n) = true := decide_eq_true (by omega)
  have t3 : decide (n ≤ 255) = false := decide_eq_false (by omega)
  have t4 : decide (n ≤ 65535) = true := decide_eq_true (by omega)
  have t5 : decide (n ≤ 4294967295) = true := decide_eq_true (by omega)
  have t6 : decide (-128 ≤ n) = true := decide_eq_true (by omega)
  have t7 : decide (-32768 ≤ n) = true := decide_eq_true (by omega)
  have t8 : decide (-2147483648 ≤ n) = true := decide_eq_true (by omega)
  go_enter Tryd.func32, Tryd.ntmps32
  go_wp2_with (go_at_call 49; go_in)
  refine HW.out.mono ?_
  rintro e w1 ⟨rfl, hb1⟩
  have hz : (str (wide n 2)).size ≤ 8 := by rw [size_str, wide_len]; omega
  have HJ : Hid ((⟨#[205]⟩ : ByteArray) ++ str (wide n 2) = str (msgInt n)) := Lib.hid (by rw [HE.out]; exact one_cons 205 _)
  obtain ⟨s, hs⟩ : ∃ s, str (wide n 2) = s := ⟨_, rfl⟩
  rw [hs] at hz HJ
  rw [hs]
  clear hs
  go_wp2_with fail
  go_ret
  exact ⟨ret_eq (congrArg Value.string HJ.out), hb1⟩

set_option maxHeartbeats 1000000 in
theorem specMsgInt_3 (n : Int) (w : World) (h : 65536 ≤ n ∧ n ≤ 4294967295) : Calls Tryd.prog 32 #[.int .i64 n] w fun e w' => e = .returned (.string (str (msgInt n))) ∧ Below w.heap.size w w' := by
  have HE : Hid (msgInt n = 206 :: wide n 4) := Lib.hid (by unfold msgInt; rw [if_neg (by omega)]; rw [if_neg (by omega)]; rw [if_neg (by omega)]; rw [if_pos (by omega)])
  have HW := Lib.hid (specWideK n 4 w (by omega) (by omega))
  have t0 : decide (-32 ≤ n) = true := decide_eq_true (by omega)
  have t1 : decide (n ≤ 127) = false := decide_eq_false (by omega)
  have t2 : decide (0 ≤ n) = true := decide_eq_true (by omega)
  have t3 : decide (n ≤ 255) = false := decide_eq_false (by omega)
  have t4 : decide (n ≤ 65535) = false := decide_eq_false (by omega)
  have t5 : decide (n ≤ 4294967295) = true := decide_eq_true (by omega)
  have t6 : decide (-128 ≤ n) = true := decide_eq_true (by omega)
  have t7 : decide (-32768 ≤ n) = true := decide_eq_true (by omega)
  have t8 : decide (-2147483648 ≤ n) = true := decide_eq_true (by omega)
  go_enter Tryd.func32, Tryd.ntmps32
  go_wp2_with (go_at_call 49; go_in)
  refine HW.out.mono ?_
  rintro e w1 ⟨rfl, hb1⟩
  have hz : (str (wide n 4)).size ≤ 8 := by rw [size_str, wide_len]; omega
  have HJ : Hid ((⟨#[206]⟩ : ByteArray) ++ str (wide n 4) = str (msgInt n)) := Lib.hid (by rw [HE.out]; exact one_cons 206 _)
  obtain ⟨s, hs⟩ : ∃ s, str (wide n 4) = s := ⟨_, rfl⟩
  rw [hs] at hz HJ
  rw [hs]
  clear hs
  go_wp2_with fail
  go_ret
  exact ⟨ret_eq (congrArg Value.string HJ.out), hb1⟩

set_option maxHeartbeats 1000000 in
theorem specMsgInt_4 (n : Int) (w : World) (h : 4294967296 ≤ n ∧ n ≤ 9223372036854775807) : Calls Tryd.prog 32 #[.int .i64 n] w fun e w' => e = .returned (.string (str (msgInt n))) ∧ Below w.heap.size w w' := by
  have HE : Hid (msgInt n = 207 :: wide n 8) := Lib.hid (by unfold msgInt; rw [if_neg (by omega)]; rw [if_neg (by omega)]; rw [if_neg (by omega)]; rw [if_neg (by omega)]; rw [if_pos (by omega)])
  have HW := Lib.hid (specWideK n 8 w (by omega) (by omega))
  have t0 : decide (-32 ≤ n) = true := decide_eq_true (by omega)
  have t1 : decide (n ≤ 127) = false := decide_eq_false (by omega)
  have t2 : decide (0 ≤ n) = true := decide_eq_true (by omega)
  have t3 : decide (n ≤ 255) = false := decide_eq_false (by omega)
  have t4 : decide (n ≤ 65535) = false := decide_eq_false (by omega)
  have t5 : decide (n ≤ 4294967295) = false := decide_eq_false (by omega)
  have t6 : decide (-128 ≤ n) = true := decide_eq_true (by omega)
  have t7 : decide (-32768 ≤ n) = true := decide_eq_true (by omega)
  have t8 : decide (-2147483648 ≤ n) = true := decide_eq_true (by omega)
  go_enter Tryd.func32, Tryd.ntmps32
  go_wp2_with (go_at_call 49; go_in)
  refine HW.out.mono ?_
  rintro e w1 ⟨rfl, hb1⟩
  have hz : (str (wide n 8)).size ≤ 8 := by rw [size_str, wide_len]; omega
  have HJ : Hid ((⟨#[207]⟩ : ByteArray) ++ str (wide n 8) = str (msgInt n)) := Lib.hid (by rw [HE.out]; exact one_cons 207 _)
  obtain ⟨s, hs⟩ : ∃ s, str (wide n 8) = s := ⟨_, rfl⟩
  rw [hs] at hz HJ
  rw [hs]
  clear hs
  go_wp2_with fail
  go_ret
  exact ⟨ret_eq (congrArg Value.string HJ.out), hb1⟩

set_option maxHeartbeats 1000000 in
theorem specMsgInt_5 (n : Int) (w : World) (h : -128 ≤ n ∧ n ≤ -33) : Calls Tryd.prog 32 #[.int .i64 n] w fun e w' => e = .returned (.string (str (msgInt n))) ∧ Below w.heap.size w w' := by
  have HE : Hid (msgInt n = 208 :: wide n 1) := Lib.hid (by unfold msgInt; rw [if_neg (by omega)]; rw [if_neg (by omega)]; rw [if_neg (by omega)]; rw [if_neg (by omega)]; rw [if_neg (by omega)]; rw [if_pos (by omega)])
  have HW := Lib.hid (specWideK n 1 w (by omega) (by omega))
  have t0 : decide (-32 ≤ n) = false := decide_eq_false (by omega)
  have t1 : decide (n ≤ 127) = true := decide_eq_true (by omega)
  have t2 : decide (0 ≤ n) = false := decide_eq_false (by omega)
  have t3 : decide (n ≤ 255) = true := decide_eq_true (by omega)
  have t4 : decide (n ≤ 65535) = true := decide_eq_true (by omega)
  have t5 : decide (n ≤ 4294967295) = true := decide_eq_true (by omega)
  have t6 : decide (-128 ≤ n) = true := decide_eq_true (by omega)
  have t7 : decide (-32768 ≤ n) = true := decide_eq_true (by omega)
  have t8 : decide (-2147483648 ≤ n) = true := decide_eq_true (by omega)
  go_enter Tryd.func32, Tryd.ntmps32
  go_wp2_with (go_at_call 49; go_in)
  refine HW.out.mono ?_
  rintro e w1 ⟨rfl, hb1⟩
  have hz : (str (wide n 1)).size ≤ 8 := by rw [size_str, wide_len]; omega
  have HJ : Hid ((⟨#[208]⟩ : ByteArray) ++ str (wide n 1) = str (msgInt n)) := Lib.hid (by rw [HE.out]; exact one_cons 208 _)
  obtain ⟨s, hs⟩ : ∃ s, str (wide n 1) = s := ⟨_, rfl⟩
  rw [hs] at hz HJ
  rw [hs]
  clear hs
  go_wp2_with fail
  go_ret
  exact ⟨ret_eq (congrArg Value.string HJ.out), hb1⟩

set_option maxHeartbeats 1000000 in
theorem specMsgInt_6 (n : Int) (w : World) (h : -32768 ≤ n ∧ n ≤ -129) : Calls Tryd.prog 32 #[.int .i64 n] w fun e w' => e = .returned (.string (str (msgInt n))) ∧ Below w.heap.size w w' := by
  have HE : Hid (msgInt n = 209 :: wide n 2) := Lib.hid (by unfold msgInt; rw [if_neg (by omega)]; rw [if_neg (by omega)]; rw [if_neg (by omega)]; rw [if_neg (by omega)]; rw [if_neg (by omega)]; rw [if_neg (by omega)]; rw [if_pos (by omega)])
  have HW := Lib.hid (specWideK n 2 w (by omega) (by omega))
  have t0 : decide (-32 ≤ n) = false := decide_eq_false (by omega)
  have t1 : decide (n ≤ 127) = true := decide_eq_true (by omega)
  have t2 : decide (0 ≤ n) = false := decide_eq_false (by omega)
  have t3 : decide (n ≤ 255) = true := decide_eq_true (by omega)
  have t4 : decide (n ≤ 65535) = true := decide_eq_true (by omega)
  have t5 : decide (n ≤ 4294967295) = true := decide_eq_true (by omega)
  have t6 : decide (-128 ≤ n) = false := decide_eq_false (by omega)
  have t7 : decide (-32768 ≤ n) = true := decide_eq_true (by omega)
  have t8 : decide (-2147483648 ≤ n) = true := decide_eq_true (by omega)
  go_enter Tryd.func32, Tryd.ntmps32
  go_wp2_with (go_at_call 49; go_in)
  refine HW.out.mono ?_
  rintro e w1 ⟨rfl, hb1⟩
  have hz : (str (wide n 2)).size ≤ 8 := by rw [size_str, wide_len]; omega
  have HJ : Hid ((⟨#[209]⟩ : ByteArray) ++ str (wide n 2) = str (msgInt n)) := Lib.hid (by rw [HE.out]; exact one_cons 209 _)
  obtain ⟨s, hs⟩ : ∃ s, str (wide n 2) = s := ⟨_, rfl⟩
  rw [hs] at hz HJ
  rw [hs]
  clear hs
  go_wp2_with fail
  go_ret
  exact ⟨ret_eq (congrArg Value.string HJ.out), hb1⟩

set_option maxHeartbeats 1000000 in
theorem specMsgInt_7 (n : Int) (w : World) (h : -2147483648 ≤ n ∧ n ≤ -32769) : Calls Tryd.prog 32 #[.int .i64 n] w fun e w' => e = .returned (.string (str (msgInt n))) ∧ Below w.heap.size w w' := by
  have HE : Hid (msgInt n = 210 :: wide n 4) := Lib.hid (by unfold msgInt; rw [if_neg (by omega)]; rw [if_neg (by omega)]; rw [if_neg (by omega)]; rw [if_neg (by omega)]; rw [if_neg (by omega)]; rw [if_neg (by omega)]; rw [if_neg (by omega)]; rw [if_pos (by omega)])
  have HW := Lib.hid (specWideK n 4 w (by omega) (by omega))
  have t0 : decide (-32 ≤ n) = false := decide_eq_false (by omega)
  have t1 : decide (n ≤ 127) = true := decide_eq_true (by omega)
  have t2 : decide (0 ≤ n) = false := decide_eq_false (by omega)
  have t3 : decide (n ≤ 255) = true := decide_eq_true (by omega)
  have t4 : decide (n ≤ 65535) = true := decide_eq_true (by omega)
  have t5 : decide (n ≤ 4294967295) = true := decide_eq_true (by omega)
  have t6 : decide (-128 ≤ n) = false := decide_eq_false (by omega)
  have t7 : decide (-32768 ≤ n) = false := decide_eq_false (by omega)
  have t8 : decide (-2147483648 ≤ n) = true := decide_eq_true (by omega)
  go_enter Tryd.func32, Tryd.ntmps32
  go_wp2_with (go_at_call 49; go_in)
  refine HW.out.mono ?_
  rintro e w1 ⟨rfl, hb1⟩
  have hz : (str (wide n 4)).size ≤ 8 := by rw [size_str, wide_len]; omega
  have HJ : Hid ((⟨#[210]⟩ : ByteArray) ++ str (wide n 4) = str (msgInt n)) := Lib.hid (by rw [HE.out]; exact one_cons 210 _)
  obtain ⟨s, hs⟩ : ∃ s, str (wide n 4) = s := ⟨_, rfl⟩
  rw [hs] at hz HJ
  rw [hs]
  clear hs
  go_wp2_with fail
  go_ret
  exact ⟨ret_eq (congrArg Value.string HJ.out), hb1⟩

set_option maxHeartbeats 1000000 in
theorem specMsgInt_8 (n : Int) (w : World) (h : -9223372036854775808 ≤ n ∧ n ≤ -2147483649) : Calls Tryd.prog 32 #[.int .i64 n] w fun e w' => e = .returned (.string (str (msgInt n))) ∧ Below w.heap.size w w' := by
  have HE : Hid (msgInt n = 211 :: wide n 8) := Lib.hid (by unfold msgInt; rw [if_neg (by omega)]; rw [if_neg (by omega)]; rw [if_neg (by omega)]; rw [if_neg (by omega)]; rw [if_neg (by omega)]; rw [if_neg (by omega)]; rw [if_neg (by omega)]; rw [if_neg (by omega)];)
  have HW := Lib.hid (specWideK n 8 w (by omega) (by omega))
  have t0 : decide (-32 ≤ n) = false := decide_eq_false (by omega)
  have t1 : decide (n ≤ 127) = true := decide_eq_true (by omega)
  have t2 : decide (0 ≤ n) = false := decide_eq_false (by omega)
  have t3 : decide (n ≤ 255) = true := decide_eq_true (by omega)
  have t4 : decide (n ≤ 65535) = true := decide_eq_true (by omega)
  have t5 : decide (n ≤ 4294967295) = true := decide_eq_true (by omega)
  have t6 : decide (-128 ≤ n) = false := decide_eq_false (by omega)
  have t7 : decide (-32768 ≤ n) = false := decide_eq_false (by omega)
  have t8 : decide (-2147483648 ≤ n) = false := decide_eq_false (by omega)
  go_enter Tryd.func32, Tryd.ntmps32
  go_wp2_with (go_at_call 49; go_in)
  refine HW.out.mono ?_
  rintro e w1 ⟨rfl, hb1⟩
  have hz : (str (wide n 8)).size ≤ 8 := by rw [size_str, wide_len]; omega
  have HJ : Hid ((⟨#[211]⟩ : ByteArray) ++ str (wide n 8) = str (msgInt n)) := Lib.hid (by rw [HE.out]; exact one_cons 211 _)
  obtain ⟨s, hs⟩ : ∃ s, str (wide n 8) = s := ⟨_, rfl⟩
  rw [hs] at hz HJ
  rw [hs]
  clear hs
  go_wp2_with fail
  go_ret
  exact ⟨ret_eq (congrArg Value.string HJ.out), hb1⟩

theorem specMsgInt (n : Int) (w : World) (h : -9223372036854775808 ≤ n ∧ n ≤ 9223372036854775807) : Calls Tryd.prog 32 #[.int .i64 n] w fun e w' => e = .returned (.string (str (msgInt n))) ∧ Below w.heap.size w w' := by
  by_cases c0 : -32 ≤ n ∧ n ≤ 127
  · exact specMsgInt_0 n w (by omega)
  by_cases c1 : 128 ≤ n ∧ n ≤ 255
  · exact specMsgInt_1 n w (by omega)
  by_cases c2 : 256 ≤ n ∧ n ≤ 65535
  · exact specMsgInt_2 n w (by omega)
  by_cases c3 : 65536 ≤ n ∧ n ≤ 4294967295
  · exact specMsgInt_3 n w (by omega)
  by_cases c4 : 4294967296 ≤ n
  · exact specMsgInt_4 n w (by omega)
  by_cases c5 : -128 ≤ n ∧ n ≤ -33
  · exact specMsgInt_5 n w (by omega)
  by_cases c6 : -32768 ≤ n ∧ n ≤ -129
  · exact specMsgInt_6 n w (by omega)
  by_cases c7 : -2147483648 ≤ n ∧ n ≤ -32769
  · exact specMsgInt_7 n w (by omega)
  exact specMsgInt_8 n w (by omega)

set_option maxHeartbeats 1000000 in
theorem specMsgMany (n lim fix b8 b16 : Int) (w : World) (hn : 0 ≤ n ∧ n ≤ 1048576) (hl : 0 ≤ lim ∧ lim ≤ 255) (hf : 0 ≤ fix ∧ fix ≤ 255) (h8 : 0 ≤ b8 ∧ b8 ≤ 255) (h16 : 0 ≤ b16 ∧ b16 ≤ 255) :
    Calls Tryd.prog 34 #[.int .i64 n, .int .i64 lim, .int .i64 fix, .int .i64 b8, .int .i64 b16] w fun e w' => e = .returned (.string (str (msgMany n lim fix b8 b16))) ∧ Below w.heap.size w w' := by
  by_cases h : n < lim
  · have q : decide (n < lim) = true := decide_eq_true h
    have HE : Hid (msgMany n lim fix b8 b16 = wide (fix + n) 1) := Lib.hid (by unfold msgMany; rw [if_pos h])
    have HW := Lib.hid (specWideK (fix + n) 1 w (by omega) (by omega))
    go_enter Tryd.func34, Tryd.ntmps34
    go_wp2_with fail
    refine HW.out.mono ?_
    rintro e w1 ⟨rfl, hb1⟩
    go_wp2_with fail
    go_ret
    exact ⟨ret_eq (by rw [HE.out]; rfl), hb1⟩
  · have q : decide (n < lim) = false := decide_eq_false h
    by_cases hb : n < 256 ∧ 0 < b8
    · have q1 : decide (n < 256) = true := decide_eq_true hb.1
      have q2 : decide (0 < b8) = true := decide_eq_true hb.2
      have HE : Hid (msgMany n lim fix b8 b16 = wide b8 1 ++ wide n 1) := Lib.hid (by unfold msgMany; rw [if_neg h, if_pos hb])
      have HW := Lib.hid (specWideK b8 1 w (by omega) (by omega))
      have HW2 := Lib.hid (fun W => specWideK n 1 W (by omega) (by omega))
      obtain ⟨hb1', hb2'⟩ := hb
      go_enter Tryd.func34, Tryd.ntmps34
      go_wp2_with fail
      refine HW.out.mono ?_
      rintro e w1 ⟨rfl, hb1⟩
      go_wp2_with fail
      refine (HW2.out w1).mono ?_
      rintro e w2 ⟨rfl, hb2⟩
      have hz1 : (str (wide b8 1)).size ≤ 8 := by rw [size_str, wide_len]; omega
      have hz2 : (str (wide n 1)).size ≤ 8 := by rw [size_str, wide_len]; omega
      have HJ : Hid (str (wide b8 1) ++ str (wide n 1) = str (msgMany n lim fix b8 b16)) := Lib.hid (by rw [HE.out, str_add])
      obtain ⟨s, hs⟩ : ∃ s, str (wide b8 1) = s := ⟨_, rfl⟩
      obtain ⟨t, ht⟩ : ∃ t, str (wide n 1) = t := ⟨_, rfl⟩
      rw [hs, ht] at HJ
      rw [hs] at hz1
      rw [ht] at hz2
      rw [hs, ht]
      clear hs ht
      go_wp2_with fail
      go_ret
      exact ⟨ret_eq (congrArg Value.string HJ.out), hb1.trans (hb2.mono hb1.size)⟩
    · have HE : Hid (msgMany n lim fix b8 b16 = wide b16 1 ++ wide n 2) := Lib.hid (by unfold msgMany; rw [if_neg h, if_neg hb])
      have HW := Lib.hid (specWideK b16 1 w (by omega) (by omega))
      have HW2 := Lib.hid (fun W => specWideK n 2 W (by omega) (by omega))
      rcases (show decide (n < 256) = false ∨ (decide (n < 256) = true ∧ decide (0 < b8) = false) by
        by_cases h1 : n < 256
        · exact .inr ⟨decide_eq_true h1, decide_eq_false (fun h2 => hb ⟨h1, h2⟩)⟩
        · exact .inl (decide_eq_false h1)) with hc | hc
      all_goals
        go_enter Tryd.func34, Tryd.ntmps34
        go_wp2_with fail
        refine HW.out.mono ?_
        rintro e w1 ⟨rfl, hb1⟩
        go_wp2_with fail
        refine (HW2.out w1).mono ?_
        rintro e w2 ⟨rfl, hb2⟩
        have hz1 : (str (wide b16 1)).size ≤ 8 := by rw [size_str, wide_len]; omega
        have hz2 : (str (wide n 2)).size ≤ 8 := by rw [size_str, wide_len]; omega
        have HJ : Hid (str (wide b16 1) ++ str (wide n 2) = str (msgMany n lim fix b8 b16)) := Lib.hid (by rw [HE.out, str_add])
        obtain ⟨s, hs⟩ : ∃ s, str (wide b16 1) = s := ⟨_, rfl⟩
        obtain ⟨t, ht⟩ : ∃ t, str (wide n 2) = t := ⟨_, rfl⟩
        rw [hs, ht] at HJ
        rw [hs] at hz1
        rw [ht] at hz2
        rw [hs, ht]
        clear hs ht
        go_wp2_with fail
        go_ret
        exact ⟨ret_eq (congrArg Value.string HJ.out), hb1.trans (hb2.mono hb1.size)⟩
end Go.Proofs.YtkajfinfphmlaaaDoor

/-
  The CBOR form of a value, plainly.
-/
namespace Go.Proofs.YtkajfinfphmlaaaDoor
open Go.RowKit
set_option linter.unusedVariables false

def cborInt (n : Int) : List UInt8 := if n < 0 then putHeadL 1 (-1 - n).toNat else putHeadL 0 n.toNat
/-- What a value writes ahead of its kids. -/
def V.ownCbor (v : V) : List UInt8 :=
  if v.k = 3 then cborInt v.n
  else if v.k = 6 then putHeadL 2 v.s.size ++ v.s.data.toList
  else if v.k = 5 then putHeadL 3 v.s.size ++ v.s.data.toList
  else if v.k = 7 then putHeadL 4 v.kids.length
  else if v.k = 8 then putHeadL 5 (v.kids.length / 2)
  else if v.k = 9 then putHeadL 6 v.n.toNat
  else if v.k = 4 then putHeadL 6 4 ++ putHeadL 4 2 ++ cborInt v.e ++ cborInt v.n
  else if v.k = 1 then putHeadL 7 20
  else if v.k = 2 then putHeadL 7 21
  else if v.k = 0 then putHeadL 7 22
  else []
mutual
def V.cbor : V → List UInt8
  | .mk k n e s ks => V.ownCbor (.mk k n e s ks) ++ Vs.cbor ks
def Vs.cbor : List V → List UInt8
  | [] => []
  | v :: r => V.cbor v ++ Vs.cbor r
end
theorem V.cbor_eq (v : V) : v.cbor = v.ownCbor ++ Vs.cbor v.kids := by cases v; simp [V.cbor, V.kids]
theorem Vs.cbor_snoc (l : List V) (v : V) : Vs.cbor (l ++ [v]) = Vs.cbor l ++ v.cbor := by
  induction l with
  | nil => simp [Vs.cbor]
  | cons a l ih => simp only [List.cons_append, Vs.cbor, ih, List.append_assoc]
theorem Vs.cbor_step (l : List V) (i : Nat) (h : i < l.length) : Vs.cbor (l.take (i + 1)) = Vs.cbor (l.take i) ++ (l[i]).cbor := by
  rw [List.take_succ_eq_append_getElem h, Vs.cbor_snoc]
theorem putHeadL_len (M : Int) (n : Nat) : (putHeadL M n).length ≤ 9 := by
  unfold putHeadL headL
  split
  · split
    · rw [wide_len]; omega
    · split
      · rw [List.length_append, wide_len, wide_len]; omega
      · split
        · rw [List.length_append, wide_len, wide_len]; omega
        · split
          · rw [List.length_append, wide_len, wide_len]; omega
          · rw [List.length_append, wide_len, wide_len]; omega
  · simp
theorem putHeadL_pos {M : Int} (n : Nat) (h : 0 ≤ M ∧ M ≤ 7) : 1 ≤ (putHeadL M n).length := by
  unfold putHeadL headL
  rw [if_pos h]
  split
  · rw [wide_len]; omega
  · split
    · rw [List.length_append, wide_len, wide_len]; omega
    · split
      · rw [List.length_append, wide_len, wide_len]; omega
      · split
        · rw [List.length_append, wide_len, wide_len]; omega
        · rw [List.length_append, wide_len, wide_len]; omega
theorem cborInt_len (n : Int) : (cborInt n).length ≤ 9 := by
  unfold cborInt
  split
  · exact putHeadL_len _ _
  · exact putHeadL_len _ _
theorem cborInt_pos (n : Int) : 1 ≤ (cborInt n).length := by
  unfold cborInt
  split
  · exact putHeadL_pos _ (by omega)
  · exact putHeadL_pos _ (by omega)
theorem V.ownCbor_len (v : V) : v.ownCbor.length ≤ 40 + v.s.size := by
  have hs : v.s.data.toList.length = v.s.size := rfl
  unfold V.ownCbor
  repeat' split
  · have := cborInt_len v.n; omega
  · rw [List.length_append]; have := putHeadL_len 2 v.s.size; omega
  · rw [List.length_append]; have := putHeadL_len 3 v.s.size; omega
  · have := putHeadL_len 4 v.kids.length; omega
  · have := putHeadL_len 5 (v.kids.length / 2); omega
  · have := putHeadL_len 6 v.n.toNat; omega
  · rw [List.length_append, List.length_append, List.length_append]; have := putHeadL_len 6 4; have := putHeadL_len 4 2; have := cborInt_len v.n; have := cborInt_len v.e; omega
  · have := putHeadL_len 7 20; omega
  · have := putHeadL_len 7 21; omega
  · have := putHeadL_len 7 22; omega
  · simp
mutual
theorem V.cbor_len : ∀ v : V, v.cbor.length ≤ 40 * v.nodes + v.weight
  | .mk k n e s ks => by
    have h1 := V.ownCbor_len (.mk k n e s ks)
    have h2 := Vs.cbor_len ks
    simp only [V.cbor, V.nodes, V.weight, List.length_append]
    simp only [V.s] at h1
    omega
theorem Vs.cbor_len : ∀ l : List V, (Vs.cbor l).length ≤ 40 * Vs.nodes l + Vs.weight l
  | [] => by simp [Vs.cbor]
  | v :: r => by
    have h1 := V.cbor_len v
    have h2 := Vs.cbor_len r
    simp only [Vs.cbor, Vs.nodes, Vs.weight, List.length_append]
    omega
end
/-- A right value writes at least one byte. -/
theorem V.cbor_pos {d : Int} {v : V} (h : V.right d v) : 1 ≤ v.cbor.length := by
  have hn := ((V.right_eq _ _).1 h).2.1.1
  rw [V.cbor_eq, List.length_append]
  have hs : 1 ≤ v.ownCbor.length := by
    unfold V.ownCbor
    have hk : v.k = 0 ∨ v.k = 1 ∨ v.k = 2 ∨ v.k = 3 ∨ v.k = 4 ∨ v.k = 5 ∨ v.k = 6 ∨ v.k = 7 ∨ v.k = 8 ∨ v.k = 9 := by
      unfold nodeOk at hn
      by_cases h0 : v.k = 0 ∨ v.k = 1 ∨ v.k = 2 ∨ v.k = 7 ∨ v.k = 8
      · omega
      · rw [if_neg h0] at hn
        by_cases h3 : v.k = 3
        · omega
        · rw [if_neg h3] at hn
          by_cases h4 : v.k = 4
          · omega
          · rw [if_neg h4] at hn
            by_cases h5 : v.k = 5
            · omega
            · rw [if_neg h5] at hn
              by_cases h6 : v.k = 6
              · omega
              · rw [if_neg h6] at hn
                by_cases h9 : v.k = 9
                · omega
                · rw [if_neg h9] at hn; exact hn.elim
    rcases hk with e | e | e | e | e | e | e | e | e | e <;> simp [e]
    · exact putHeadL_pos 22 (by omega)
    · exact putHeadL_pos 20 (by omega)
    · exact putHeadL_pos 21 (by omega)
    · exact cborInt_pos _
    · have := cborInt_pos v.n; omega
    · have := putHeadL_pos (M := 3) v.s.size (by omega); omega
    · have := putHeadL_pos (M := 2) v.s.size (by omega); omega
    · exact putHeadL_pos _ (by omega)
    · exact putHeadL_pos _ (by omega)
    · exact putHeadL_pos _ (by omega)
  omega
end Go.Proofs.YtkajfinfphmlaaaDoor

/-
  PutWide of the program: the bytes of a number, the highest first.
-/
namespace Go.Proofs.YtkajfinfphmlaaaDoor
open Go.RowKit
set_option linter.unusedVariables false
set_option maxRecDepth 100000

set_option maxHeartbeats 1000000 in
theorem implPutWide_yes (n : Int) (m : Nat) (w : World) (h0 : -9223372036854775808 ≤ n ∧ n ≤ 9223372036854775807) (h1 : 1 ≤ m) (hm : m ≤ 8) :
    Calls Tryd.prog 40 #[.int .i64 n, .int .i64 m] w fun e w' => e = .returned (.string (str (wide n m))) ∧ Below w.heap.size w w' := by
  have hd : decide ((m : Int) ≤ 8) = true := by simp; omega
  go_enter Tryd.func40, Tryd.ntmps40
  go_wp2
  go_loopg [5, 6] m (fun g v i wr => ∃ t : Nat, t + g = m ∧ i = .int .i64 ((m : Int) - 1 - t) ∧ wr.ownsRow w.heap.size 5 1 v t (((wide n m).take t).map bv) ∧ Below w.heap.size w wr)
  case atStart => exact ⟨0, Nat.zero_add _, by simp, own_empty w _ _, (Below.refl _ _).alloc (Nat.le_refl _) _⟩
  case round =>
    obtain ⟨t, ht0, rfl, hown, hb⟩ := hrel
    have HG := Lib.hid ht0
    have ht : t ≤ m := by omega
    have htg : t + gk ≤ m := by omega
    clear ht0
    by_cases hlt : t < m
    · obtain ⟨k, hk⟩ : ∃ k : Nat, k + t + 1 = m := ⟨m - 1 - t, by omega⟩
      have e1 : (m : Int) - 1 - t = k := by omega
      rw [e1]
      have HK := Lib.hid hk
      have hk7 : k ≤ 7 := by omega
      clear e1 hk
      go_wp2_with (at_builtin; (refine wpList_app rfl (.tmp 17) (.tmp 23) 38 rfl w.heap.size 5 Tryd.underlying38 infoU8 rfl (by decide) rfl (hown.alloc _) (hb.alloc hb.size _) (Nat.le_trans hb.size (by simp)) _ 1 1 _ rfl rfl (cells_new _ _ _) (one_u8 _) (by unfold maxLen; omega) (by omega) ?_; intro v' w' hown' hb' hB'))
      rw [byte_impl, show k = m - 1 - t by have := HK.out; omega] at hown'
      have HT := Lib.hid (wide_take n m t (by omega))
      go_wp2
      go_roundg (gk - 1)
      case rel => exact ⟨t + 1, by have := HG.out; omega, by have := HK.out; go_num, by rw [HT.out, List.map_append]; exact hown', hb'⟩
      case measure => have := HG.out; omega
    · obtain rfl : t = m := by have := HG.out; omega
      have hcv := run_string_own (P := Tryd.prog) 38 9 5 Tryd.underlying38 Tryd.underlying5 Tryd.underlying9 hown
      clear hown
      go_wp2
      go_ret
      exact ⟨ret_eq (congrArg (fun l => Value.string (str l)) (List.take_of_length_le (by rw [wide_len]; omega))), hb⟩

set_option maxHeartbeats 1000000 in
theorem implPutWide (n m : Int) (w : World) (h0 : -9223372036854775808 ≤ n ∧ n ≤ 9223372036854775807) :
    Calls Tryd.prog 40 #[.int .i64 n, .int .i64 m] w fun e w' => e = .returned (.string (str (pw n m))) ∧ Below w.heap.size w w' := by
  by_cases h : 1 ≤ m ∧ m ≤ 8
  · obtain ⟨k, rfl⟩ := Int.eq_ofNat_of_zero_le (show 0 ≤ m by omega)
    have hp : pw n k = wide n k := by unfold pw; rw [if_pos h, Int.toNat_natCast]
    rw [hp]
    exact implPutWide_yes n k w h0 (by omega) (by omega)
  · have hp : pw n m = [] := by unfold pw; rw [if_neg h]
    rw [hp]
    clear hp
    rcases (show decide (1 ≤ m) = false ∨ (decide (1 ≤ m) = true ∧ decide (m ≤ 8) = false) by simp; omega) with hc | hc
    all_goals
      clear h
      go_enter Tryd.func40, Tryd.ntmps40
      go_wp2_with go_in
      go_ret
      exact ⟨rfl, Below.refl _ _⟩
end Go.Proofs.YtkajfinfphmlaaaDoor

/-
  PutHead of the program.
-/
namespace Go.Proofs.YtkajfinfphmlaaaDoor
open Go.RowKit
set_option linter.unusedVariables false
set_option maxRecDepth 100000

theorem wideAt (x : Int) (n m : Nat) (hx : x = IntKind.i64.wrap (n : Int)) (w : World) (h1 : 1 ≤ m) (hm : m ≤ 8) :
    Calls Tryd.prog 40 #[.int .i64 x, .int .i64 m] w fun e w' => ∃ y, e = .returned (.string y) ∧ Named y (wide n m) ∧ y.size ≤ 8 ∧ Below w.heap.size w w' := by
  subst hx
  rw [IntWalk.i64_left]
  refine (implPutWide_yes _ m w (by rw [wrap64_eq]; omega) h1 hm).mono ?_
  rintro e w' ⟨rfl, hb⟩
  exact ⟨_, rfl, by rw [wide_wrap n m hm]; rfl, by rw [size_str, wide_len]; exact hm, hb⟩

set_option maxHeartbeats 1000000 in
set_option maxRecDepth 100000 in
theorem implPutHead_0 (M n : Nat) (w : World) (hM : M < 8) (h : n < 24) :
    Calls Tryd.prog 47 #[.int .i64 M, .int .u64 n] w fun e w' => e = .returned (.string (str (wide (32 * M + n : Nat) 1))) ∧ Below w.heap.size w w' := by
  have hd : decide ((M : Int) ≤ 7) = true := by simp; omega
  have hd1 : decide ((n : Int) < 24) = true := by simp; omega
  have hl := lit1 (P := Tryd.prog) 38 9 5 Tryd.underlying38 Tryd.underlying5 Tryd.underlying9
  go_enter Tryd.func47, Tryd.ntmps47
  go_wp2_with (go_at_call 56; go_in)
  go_ret
  exact ⟨ret_eq (congrArg Value.string (lit_named M n _ (by omega) (by omega))), (Below.refl _ _).alloc (Nat.le_refl _) _⟩

set_option maxHeartbeats 1000000 in
set_option maxRecDepth 100000 in
theorem implPutHead_1 (M n : Nat) (w : World) (hM : M < 8) (h : 24 ≤ n ∧ n < 256) :
    Calls Tryd.prog 47 #[.int .i64 M, .int .u64 n] w fun e w' => e = .returned (.string (str (wide (32 * M + 24 : Nat) 1 ++ wide n 1))) ∧ Below w.heap.size w w' := by
  have hd : decide ((M : Int) ≤ 7) = true := by simp; omega
  have hd1 : decide ((n : Int) < 24) = false := by simp; omega
  have hd2 : decide ((n : Int) < 256) = true := by simp; omega
  go_enter Tryd.func47, Tryd.ntmps47
  go_wp2_with (go_at_call 56; go_in)
  have hl := lit1 (P := Tryd.prog) 38 9 5 Tryd.underlying38 Tryd.underlying5 Tryd.underlying9
  have hl2 := lit1_drew (P := Tryd.prog) 38 9 5 Tryd.underlying38 Tryd.underlying5 Tryd.underlying9
  have hs0 : ∀ b : UInt8, (str [b]).size = 1 := fun _ => rfl
  clear h hd hd1 hd2
  go_region_with ((go_at_call 40; refine (wideAt _ n 1 rfl _ (by omega) (by omega)).mono ?_; rintro e w1 ⟨x2, rfl, H2, hs2, hb1⟩; try have hcv := lit1_after (P := Tryd.prog) 38 9 5 Tryd.underlying38 Tryd.underlying5 Tryd.underlying9 hb1))
  all_goals go_wp2_with fail
  all_goals go_ret
  all_goals exact ⟨ret_eq (congrArg Value.string (named_add (lit_named M 24 _ (by first | omega | (rw [IntKind.wrap_u8']; omega)) (by omega)) H2)), by first | exact bl_1 hb1 | exact bl_2 hb1⟩

set_option maxHeartbeats 1000000 in
set_option maxRecDepth 100000 in
theorem implPutHead_2 (M n : Nat) (w : World) (hM : M < 8) (h : 256 ≤ n ∧ n < 65536) :
    Calls Tryd.prog 47 #[.int .i64 M, .int .u64 n] w fun e w' => e = .returned (.string (str (wide (32 * M + 25 : Nat) 1 ++ wide n 2))) ∧ Below w.heap.size w w' := by
  have hd : decide ((M : Int) ≤ 7) = true := by simp; omega
  have hd1 : decide ((n : Int) < 24) = false := by simp; omega
  have hd2 : decide ((n : Int) < 256) = false := by simp; omega
  have hd3 : decide ((n : Int) < 65536) = true := by simp; omega
  go_enter Tryd.func47, Tryd.ntmps47
  go_wp2_with (go_at_call 56; go_in)
  have hl := lit1 (P := Tryd.prog) 38 9 5 Tryd.underlying38 Tryd.underlying5 Tryd.underlying9
  have hl2 := lit1_drew (P := Tryd.prog) 38 9 5 Tryd.underlying38 Tryd.underlying5 Tryd.underlying9
  have hs0 : ∀ b : UInt8, (str [b]).size = 1 := fun _ => rfl
  clear h hd hd1 hd2 hd3
  go_region_with ((go_at_call 40; refine (wideAt _ n 2 rfl _ (by omega) (by omega)).mono ?_; rintro e w1 ⟨x2, rfl, H2, hs2, hb1⟩; try have hcv := lit1_after (P := Tryd.prog) 38 9 5 Tryd.underlying38 Tryd.underlying5 Tryd.underlying9 hb1))
  all_goals go_wp2_with fail
  all_goals go_ret
  all_goals exact ⟨ret_eq (congrArg Value.string (named_add (lit_named M 25 _ (by first | omega | (rw [IntKind.wrap_u8']; omega)) (by omega)) H2)), by first | exact bl_1 hb1 | exact bl_2 hb1⟩

set_option maxHeartbeats 1000000 in
set_option maxRecDepth 100000 in
theorem implPutHead_3 (M n : Nat) (w : World) (hM : M < 8) (h : 65536 ≤ n ∧ n < 4294967296) :
    Calls Tryd.prog 47 #[.int .i64 M, .int .u64 n] w fun e w' => e = .returned (.string (str (wide (32 * M + 26 : Nat) 1 ++ wide n 4))) ∧ Below w.heap.size w w' := by
  have hd : decide ((M : Int) ≤ 7) = true := by simp; omega
  have hd1 : decide ((n : Int) < 24) = false := by simp; omega
  have hd2 : decide ((n : Int) < 256) = false := by simp; omega
  have hd3 : decide ((n : Int) < 65536) = false := by simp; omega
  have hd4 : decide ((n : Int) < 4294967296) = true := by simp; omega
  go_enter Tryd.func47, Tryd.ntmps47
  go_wp2_with (go_at_call 56; go_in)
  have hl := lit1 (P := Tryd.prog) 38 9 5 Tryd.underlying38 Tryd.underlying5 Tryd.underlying9
  have hl2 := lit1_drew (P := Tryd.prog) 38 9 5 Tryd.underlying38 Tryd.underlying5 Tryd.underlying9
  have hs0 : ∀ b : UInt8, (str [b]).size = 1 := fun _ => rfl
  clear h hd hd1 hd2 hd3 hd4
  go_region_with ((go_at_call 40; refine (wideAt _ n 4 rfl _ (by omega) (by omega)).mono ?_; rintro e w1 ⟨x2, rfl, H2, hs2, hb1⟩; try have hcv := lit1_after (P := Tryd.prog) 38 9 5 Tryd.underlying38 Tryd.underlying5 Tryd.underlying9 hb1))
  all_goals go_wp2_with fail
  all_goals go_ret
  all_goals exact ⟨ret_eq (congrArg Value.string (named_add (lit_named M 26 _ (by first | omega | (rw [IntKind.wrap_u8']; omega)) (by omega)) H2)), by first | exact bl_1 hb1 | exact bl_2 hb1⟩

set_option maxHeartbeats 1000000 in
set_option maxRecDepth 100000 in
theorem implPutHead_4 (M n : Nat) (w : World) (hM : M < 8) (h : 4294967296 ≤ n ∧ n < 18446744073709551616) :
    Calls Tryd.prog 47 #[.int .i64 M, .int .u64 n] w fun e w' => e = .returned (.string (str (wide (32 * M + 27 : Nat) 1 ++ wide n 8))) ∧ Below w.heap.size w w' := by
  have hd : decide ((M : Int) ≤ 7) = true := by simp; omega
  have hd1 : decide ((n : Int) < 24) = false := by simp; omega
  have hd2 : decide ((n : Int) < 256) = false := by simp; omega
  have hd3 : decide ((n : Int) < 65536) = false := by simp; omega
  have hd4 : decide ((n : Int) < 4294967296) = false := by simp; omega
  go_enter Tryd.func47, Tryd.ntmps47
  go_wp2_with (go_at_call 56; go_in)
  have hl := lit1 (P := Tryd.prog) 38 9 5 Tryd.underlying38 Tryd.underlying5 Tryd.underlying9
  have hl2 := lit1_drew (P := Tryd.prog) 38 9 5 Tryd.underlying38 Tryd.underlying5 Tryd.underlying9
  have hs0 : ∀ b : UInt8, (str [b]).size = 1 := fun _ => rfl
  clear h hd hd1 hd2 hd3 hd4
  go_region_with ((go_at_call 40; refine (wideAt _ n 8 rfl _ (by omega) (by omega)).mono ?_; rintro e w1 ⟨x2, rfl, H2, hs2, hb1⟩; try have hcv := lit1_after (P := Tryd.prog) 38 9 5 Tryd.underlying38 Tryd.underlying5 Tryd.underlying9 hb1))
  all_goals go_wp2_with fail
  all_goals go_ret
  all_goals exact ⟨ret_eq (congrArg Value.string (named_add (lit_named M 27 _ (by first | omega | (rw [IntKind.wrap_u8']; omega)) (by omega)) H2)), by first | exact bl_1 hb1 | exact bl_2 hb1⟩

theorem implPutHead (M : Int) (n : Nat) (w : World) (hn : n < 18446744073709551616) :
    Calls Tryd.prog 47 #[.int .i64 M, .int .u64 n] w fun e w' => e = .returned (.string (str (putHeadL M n))) ∧ Below w.heap.size w w' := by
  by_cases h : 0 ≤ M ∧ M ≤ 7
  · obtain ⟨M, rfl⟩ := Int.eq_ofNat_of_zero_le h.1
    have hM : M < 8 := by omega
    have hp : putHeadL M n = headL M n := by unfold putHeadL; rw [if_pos h, Int.toNat_natCast]
    rw [hp]
    unfold headL
    by_cases h1 : n < 24
    · rw [if_pos h1]; exact implPutHead_0 M n w hM h1
    · rw [if_neg h1]
      by_cases h2 : n < 256
      · rw [if_pos h2]; exact implPutHead_1 M n w hM (by omega)
      · rw [if_neg h2]
        by_cases h3 : n < 65536
        · rw [if_pos h3]; exact implPutHead_2 M n w hM (by omega)
        · rw [if_neg h3]
          by_cases h4 : n < 4294967296
          · rw [if_pos h4]; exact implPutHead_3 M n w hM (by omega)
          · rw [if_neg h4]; exact implPutHead_4 M n w hM (by omega)
  · have hp : putHeadL M n = [] := by unfold putHeadL; rw [if_neg h]
    rw [hp]
    clear hp hn
    rcases (show decide (0 ≤ M) = false ∨ (decide (0 ≤ M) = true ∧ decide (M ≤ 7) = false) by simp; omega) with hc | hc
    all_goals
      clear h
      go_enter Tryd.func47, Tryd.ntmps47
      go_wp2_with (go_at_call 56; go_in)
      go_ret
      exact ⟨rfl, Below.refl _ _⟩

end Go.Proofs.YtkajfinfphmlaaaDoor

/-
  A strings.Builder that the call has made, under plain names.
-/
namespace Go.Proofs.YtkajfinfphmlaaaDoor
open Go.RowKit
set_option linter.unusedVariables false
set_option maxRecDepth 100000
set_option linter.unusedSimpArgs false

/-- Block b is a builder that holds these bytes; its buffer lies from B on. -/
def BF (B b : Nat) (l : List UInt8) (w : World) : Prop := Lib.IsBuilderF 40 5 B b (Lib.byteCells l) w
/-- What isn't b and no row of bytes stands as it stood. -/
def OK8 (b : Nat) (w w' : World) : Prop := Lib.OthersKept 5 (some b) w w'
theorem OK8.refl (b : Nat) (w : World) : OK8 b w w := Lib.OthersKept.refl _ _ _
theorem OK8.trans {b : Nat} {a c d : World} (h : OK8 b a c) (k : OK8 b c d) : OK8 b a d := Lib.OthersKept.trans h k
theorem OK8.alloc {b : Nat} {a w : World} (h : OK8 b a w) (o : Obj) : OK8 b a (w.alloc o) := Lib.OthersKept.alloc h o
theorem OK8.below {b : Nat} {a w w' : World} (h : OK8 b a w) (hb : Below w.heap.size w w') : OK8 b a w' := by
  intro k x hk hkb hx
  have h1 := h k x hk hkb hx
  have hlt : k < w.heap.size := (Array.getElem?_eq_some_iff.1 h1).1
  exact (hb.block k hlt).trans h1
theorem OK8.blk {b : Nat} {w w' : World} (h : OK8 b w w') {g : Nat} {t : TypeId} {cs : Array Value} (hb : Blk w g t cs) (hg : g ≠ b) (ht : t ≠ 5) : Blk w' g t cs :=
  h g _ hb (fun e => hg (Option.some.inj e)) (fun c fz e => ht (by injection e))
theorem BF.lt {B b : Nat} {l : List UInt8} {w : World} (h : BF B b l w) : b < w.heap.size := by
  rcases h with h | h
  · exact h.lt
  · exact h.lt
theorem BF.base {B b : Nat} {l : List UInt8} {w : World} (h : BF B b l w) : B ≤ b := by
  rcases h with h | h
  · exact h.1
  · exact h.1
theorem bfAt_below {B b : Nat} {p : Value} {bs : List Value} {w w' : World} (h : Lib.BuilderAtF 40 5 B b p bs w) (hb : Below w.heap.size w w') : Lib.BuilderAtF 40 5 B b p bs w' := by
  have hlt := h.lt
  obtain ⟨hB, v, hv, hown, hne⟩ := h
  refine ⟨hB, v, (hb.block b hlt).trans hv, ⟨hown.1, ?_⟩, hne⟩
  rcases hown.2 with hn | ⟨g, cap, cur, fz, e1, hbg, hg, rest⟩
  · exact .inl hn
  · have hgl : g < w.heap.size := (Array.getElem?_eq_some_iff.1 hg).1
    exact .inr ⟨g, cap, cur, fz, e1, hbg, (hb.block g hgl).trans hg, rest⟩
theorem BF.below {B b : Nat} {l : List UInt8} {w w' : World} (h : BF B b l w) (hb : Below w.heap.size w w') : BF B b l w' :=
  h.elim (fun x => .inl (bfAt_below x hb)) (fun x => .inr (bfAt_below x hb))
theorem BF.alloc {B b : Nat} {l : List UInt8} {w : World} (h : BF B b l w) (o : Obj) : BF B b l (w.alloc o) := h.below ((Below.refl _ w).alloc (Nat.le_refl _) o)
/-- A new builder. -/
theorem BF.new (w : World) (B : Nat) (hB : B ≤ w.heap.size) : BF B w.heap.size [] (w.alloc (.cells #[.pointer none, .slice none 0 0] 40)) :=
  .inl ⟨hB, .slice none 0 0, heap_alloc_new w _, ⟨rfl, .inl ⟨rfl, rfl⟩⟩, by simp [Value.ownBlock]⟩
theorem sizeB : (Tryd.prog.info? 40).map (·.size) = some 2 := by kernel_rfl
theorem liesB : liesAt Tryd.prog Tryd.prog.depth 40 (2 / Tryd.prog.cellsOf 40) 0 40 1 = true := by kernel_rfl

set_option maxHeartbeats 1000000 in
theorem bldCheck_used (b : Nat) (w : World) (h0 : w.cell? ⟨b, 0, none⟩ = some (.pointer (some ⟨b, 0, none⟩))) :
    Calls Tryd.prog 55 #[.pointer (some ⟨b, 0, none⟩)] w fun e w' => e = .returned (.tuple #[]) ∧ w' = w := by
  obtain ⟨j, hj, _⟩ := Option.map_eq_some_iff.1 sizeB
  go_enter Tryd.func55, Tryd.ntmps55
  go_wp2
  rw [Lib.run_neq_ptr_same w _ Tryd.underlying37 hj]
  go_wp2
  go_end0
  exact ⟨rfl, rfl⟩

set_option maxHeartbeats 1000000 in
theorem bldCheck_fresh (b : Nat) (w : World) (h0 : w.cell? ⟨b, 0, none⟩ = some (.pointer none)) (hsh : w.shape? b = some (40, 2)) (hfz : w.frozen? ⟨b, 0, none⟩ = false) :
    Calls Tryd.prog 55 #[.pointer (some ⟨b, 0, none⟩)] w fun e w' => e = .returned (.tuple #[]) ∧ w' = w.setCell ⟨b, 0, none⟩ (.pointer (some ⟨b, 0, none⟩)) := by
  obtain ⟨j, hj, hjs⟩ := Option.map_eq_some_iff.1 sizeB
  go_enter Tryd.func55, Tryd.ntmps55
  go_wp2
  rw [Lib.run_to_unsafe w ⟨b, 0, none⟩ Tryd.underlying37 Tryd.underlying70 hj (by rw [hjs]; decide) hsh (Nat.zero_lt_succ 1)]
  simp only [Result.andThen]
  rw [Oper.upon_value]
  go_wp2
  rw [run_callFunc_extern Tryd.func66 (by kernel_rfl) (by kernel_rfl) (by kernel_rfl) (e := Extern.AbiNoEscape.same) (by kernel_rfl)]
  rw [Lib.run_noEscape]
  simp only [Result.andThen]
  rw [Oper.upon_value]
  go_wp2
  rw [Lib.run_from_unsafe w ⟨b, 0, none⟩ Tryd.underlying70 Tryd.underlying37 hj hsh liesB]
  simp only [Result.andThen]
  rw [Oper.upon_value]
  go_wp2
  go_end0
  exact ⟨rfl, rfl⟩

theorem bldCheck (B b : Nat) (bs : List Value) (w : World) (h : Lib.IsBuilderF 40 5 B b bs w) :
    Calls Tryd.prog 55 #[.pointer (some ⟨b, 0, none⟩)] w fun e w' => e = .returned (.tuple #[]) ∧ (Lib.BuilderAtF 40 5 B b (.pointer (some ⟨b, 0, none⟩)) bs w' ∧ Below B w w' ∧ Lib.OthersKept 5 (some b) w w') := by
  rcases h with h | h
  · refine (bldCheck_fresh b w h.cell0 h.shape h.frozen0).mono ?_
    rintro e w' ⟨rfl, rfl⟩
    exact ⟨rfl, h.used _, (Below.refl B w).setCell (p := ⟨b, 0, none⟩) h.1 _, (Lib.OthersKept.refl _ _ w).setCell ⟨b, 0, none⟩ rfl _⟩
  · refine (bldCheck_used b w h.cell0).mono ?_
    rintro e w' ⟨rfl, rfl⟩
    exact ⟨rfl, h, Below.refl B _, Lib.OthersKept.refl _ _ _⟩

set_option maxHeartbeats 2000000 in
theorem bldWrite (B b : Nat) (bs : List Value) (s : ByteArray) (w : World) (h : Lib.IsBuilderF 40 5 B b bs w) (hlen : bs.length + s.size ≤ 140737488355328) (hBw : B ≤ w.heap.size) :
    Calls Tryd.prog 37 #[.pointer (some ⟨b, 0, none⟩), .string s] w fun e w' => e = .returned (.tuple #[.int .i64 s.size, .nilIface]) ∧ (Lib.BuilderAtF 40 5 B b (.pointer (some ⟨b, 0, none⟩)) (bs ++ Lib.strCells s) w' ∧ Below B w w' ∧ Lib.OthersKept 5 (some b) w w') := by
  obtain ⟨i0, hi, hz0, hz1, hz2⟩ := info_parts infoU8
  have HC := Lib.hid (bldCheck B b bs w h)
  clear h
  go_enter Tryd.func37, Tryd.ntmps37
  go_wp2_with fail
  refine HC.out.mono ?_
  rintro e w1 ⟨rfl, h1, hb1, hk1⟩
  obtain ⟨hB, v, hbk, hown, hne⟩ := h1
  have c0 : w1.cell? ⟨b, 0, none⟩ = some (.pointer (some ⟨b, 0, none⟩)) := by rw [Lib.cell_of_heap hbk]; rfl
  have c1 : w1.cell? ⟨b, 1, none⟩ = some v := by rw [Lib.cell_of_heap hbk]; rfl
  go_wp2_with (at_builtin; refine Lib.wpList_append_own_stringF _ rfl _ _ 38 9 rfl B 5 i0 Tryd.underlying38 Tryd.underlying9 hi hz0 hz1 hz2 _ _ _ rfl hown s rfl ?c3 ?c4 ?c5 ?_)
  case c3 => unfold maxLen; omega
  case c4 => omega
  case c5 => have := hb1.size; omega
  intro v' w2 hown' hgrow _
  have hlt : b < w1.heap.size := by
    rcases Nat.lt_or_ge b w1.heap.size with h' | h'
    · exact h'
    · simp [Array.getElem?_eq_none h'] at hbk
  have hb2 : w2.heap[b]? = some (.cells #[.pointer (some ⟨b, 0, none⟩), v] 40 (0, 0)) := by
    rw [hgrow.block b hlt (fun e => hne e.symm)]
    exact hbk
  have d0 : w2.cell? ⟨b, 0, none⟩ = some (.pointer (some ⟨b, 0, none⟩)) := by rw [Lib.cell_of_heap hb2]; rfl
  have d1 : w2.cell? ⟨b, 1, none⟩ = some v := by rw [Lib.cell_of_heap hb2]; rfl
  have f1 : w2.frozen? ⟨b, 1, none⟩ = false := Lib.frozen_of_heap hb2 1
  obtain ⟨ao, n', cap, rfl⟩ : ∃ ao n' cap, v' = .slice ao n' cap := by
    rcases hown'.2 with ⟨hv, _⟩ | ⟨g, cap, cur, fz, hv, _⟩
    · exact ⟨_, _, _, hv⟩
    · exact ⟨_, _, _, hv⟩
  go_wp2_with fail
  go_ret2
  refine ⟨rfl, ?_, ?_, (hk1.grown hgrow (Lib.ownsRowF_kind hown)).setCell ⟨b, 1, none⟩ rfl _⟩
  · exact Lib.BuilderAtF.put (T := 40) (e := 5) hB hb2 (bs' := bs ++ Lib.strCells s) (by simpa [Lib.strCells_length] using hown') (by decide)
  · exact (hb1.grown hgrow (by have := hb1.size; omega) (fun k hk => (hown.lt k hk).1)).setCell (p := ⟨b, 1, none⟩) hB _
theorem bfWrite (B b : Nat) (l : List UInt8) (s : ByteArray) (w : World) (h : BF B b l w) (hlen : l.length + s.size ≤ 140737488355328) (hB : B ≤ w.heap.size) :
    Calls Tryd.prog 37 #[.pointer (some ⟨b, 0, none⟩), .string s] w fun e w' => e = .returned (.tuple #[.int .i64 s.size, .nilIface]) ∧ BF B b (l ++ s.data.toList) w' ∧ Below B w w' ∧ OK8 b w w' := by
  refine (bldWrite B b _ s w h (by rw [Lib.byteCells_length]; exact hlen) hB).mono ?_
  rintro e w' ⟨rfl, h1, h2, h3⟩
  exact ⟨rfl, .inr (by rw [Lib.byteCells_append]; exact h1), h2, h3⟩
theorem bfString (B b : Nat) (l : List UInt8) (w : World) (h : BF B b l w) (hB : B ≤ w.heap.size) :
    Calls Tryd.prog 24 #[.pointer (some ⟨b, 0, none⟩)] w fun e w' => e = .returned (.string ⟨l.toArray⟩) ∧ Below B w w' := by
  refine (Tryd.Builder_String_any_k B b l w h hB).mono ?_
  rintro e w' ⟨rfl, _, h2, _⟩
  exact ⟨rfl, h2⟩
end Go.Proofs.YtkajfinfphmlaaaDoor

/-
  The program's putCbor.
-/
namespace Go.Proofs.YtkajfinfphmlaaaDoor
open Go.RowKit
set_option linter.unusedVariables false
set_option linter.unusedSimpArgs false
set_option maxRecDepth 100000

set_option maxHeartbeats 1000000 in
theorem implPutInt (n : Int) (w : World) (hn : inI n) :
    Calls Tryd.prog 46 #[.int .i64 n] w fun e w' => e = .returned (.string (str (cborInt n))) ∧ Below w.heap.size w w' := by
  unfold inI at hn
  by_cases h : n < 0
  · have hd : decide (n < 0) = true := decide_eq_true h
    have HP := Lib.hid (implPutHead 1 (-1 - n).toNat w (by omega))
    have HE : Hid (cborInt n = putHeadL 1 (-1 - n).toNat) := Lib.hid (by unfold cborInt; rw [if_pos h])
    have e : (((-1 - n).toNat : Nat) : Int) = IntKind.u64.wrap (-1 - n) := by rw [IntKind.wrap_u64]; omega
    rw [e] at HP
    clear e h
    go_enter Tryd.func46, Tryd.ntmps46
    go_wp2_with fail
    refine HP.out.mono ?_
    rintro e w1 ⟨rfl, hb1⟩
    go_wp2_with fail
    go_ret
    exact ⟨ret_eq (by rw [HE.out]; rfl), hb1⟩
  · have hd : decide (n < 0) = false := decide_eq_false h
    have HP := Lib.hid (implPutHead 0 n.toNat w (by omega))
    have HE : Hid (cborInt n = putHeadL 0 n.toNat) := Lib.hid (by unfold cborInt; rw [if_neg h])
    have e : ((n.toNat : Nat) : Int) = n := by omega
    have hun : IntKind.u64.wrap n = n := by rw [IntKind.wrap_u64]; omega
    rw [e] at HP
    have h0 : 0 ≤ n := by omega
    clear e h
    go_enter Tryd.func46, Tryd.ntmps46
    go_wp2_with fail
    refine HP.out.mono ?_
    rintro e w1 ⟨rfl, hb1⟩
    go_wp2_with fail
    go_ret
    exact ⟨ret_eq (by rw [HE.out]; rfl), hb1⟩

def ImplCborSaid (v : V) : Prop := ∀ (A : Option Addr) (cap B b : Nat) (l : List UInt8) (w : World), (∃ d, V.right d v) → v.fits → v.weight ≤ 1048576 → l.length + v.cbor.length ≤ 1000000000 → Vs.at_ w 0 B v.kids A →
    B ≤ w.heap.size → BF B b l w →
    Calls Tryd.prog 29 #[.pointer (some ⟨b, 0, none⟩), v.agg A cap] w fun e w' => e = .returned (.tuple #[]) ∧ BF B b (l ++ v.cbor) w' ∧ Below B w w' ∧ OK8 b w w'
/-- What holds behind j kids. -/
def CbRel (v : V) (B b : Nat) (l : List UInt8) (w : World) (j : Nat) (wr : World) : Prop :=
  BF B b (l ++ (v.ownCbor ++ Vs.cbor (v.kids.take j))) wr ∧ Below B w wr ∧ OK8 b w wr
theorem cbrel_bound {v : V} {l : List UInt8} {j : Nat} (hj : j < v.kids.length) (h : l.length + v.cbor.length ≤ 1000000000) : (l ++ (v.ownCbor ++ Vs.cbor (v.kids.take j))).length + (v.kids[j]).cbor.length ≤ 1000000000 := by
  have h1 := congrArg List.length (Vs.cbor_step v.kids j hj)
  have h2 : ∀ (l : List V) i, (Vs.cbor (l.take i)).length ≤ (Vs.cbor l).length := by
    intro l
    induction l with
    | nil => intro i; simp
    | cons a l ih =>
      intro i
      cases i with
      | zero => simp [Vs.cbor]
      | succ i => simp only [List.take_succ_cons, Vs.cbor, List.length_append]; have := ih i; omega
  have h3 := h2 v.kids (j + 1)
  have h4 := congrArg List.length (V.cbor_eq v)
  rw [List.length_append] at h1 h4
  rw [List.length_append, List.length_append]
  omega
theorem own_le {v : V} {l : List UInt8} (h : l.length + v.cbor.length ≤ 1000000000) : l.length + v.ownCbor.length ≤ 1000000000 := by
  have h4 := congrArg List.length (V.cbor_eq v)
  rw [List.length_append] at h4
  omega
theorem data_str (l : List UInt8) : (str l).data.toList = l := by simp [str]
theorem vt_ne : 29 ≠ 5 := by decide

set_option maxHeartbeats 4000000 in
theorem implCbor_0 (v : V) (hk : ∀ i (h : i < v.kids.length), ImplCborSaid v.kids[i]) (hkd : v.k = 0) : ImplCborSaid v := by
  intro A cap B b l w hr hf hw hlen hat hBw hB
  obtain ⟨d, hr⟩ := hr
  have hr3 := (V.right_eq _ _).1 hr
  obtain ⟨hw1, hw2, hw3⟩ := V.weight_kids v
  have hl : v.kids.length ≤ 1048576 := by omega
  have hss : v.s.size ≤ 1048576 := by omega
  have hf3 := (V.fits_eq v).1 hf
  have hbl := hB.lt
  have hbB := hB.base
  have HKR := Lib.hid (fun (i : Nat) (h : i < v.kids.length) => (Vs.right_iff _ _).1 hr3.2.2 i h)
  have HKF := Lib.hid (fun (i : Nat) (h : i < v.kids.length) => Vs.fits_get i h hf3.2.2.1)
  have HKW := Lib.hid (fun (i : Nat) (h : i < v.kids.length) => (show (v.kids[i]).weight ≤ 1048576 by have := Vs.weight_get i h; omega))
  have HL := Lib.hid hlen
  have hol := own_le hlen
  have HC := Lib.hid hk
  have HA := Lib.hid hat
  have HB := Lib.hid hB
  have HQ := Lib.hid (V.cbor_eq v)
  have RN := Lib.hid hf3.2.2.2.2.1
  have RE := Lib.hid hf3.2.2.2.2.2
  have q0 : (v.k == 0) = true := by rw [hkd]; rfl
  have q1 : (v.k == 1) = false := by rw [hkd]; rfl
  have q2 : (v.k == 2) = false := by rw [hkd]; rfl
  have q3 : (v.k == 3) = false := by rw [hkd]; rfl
  have q4 : (v.k == 4) = false := by rw [hkd]; rfl
  have q5 : (v.k == 5) = false := by rw [hkd]; rfl
  have q6 : (v.k == 6) = false := by rw [hkd]; rfl
  have q7 : (v.k == 7) = false := by rw [hkd]; rfl
  have q8 : (v.k == 8) = false := by rw [hkd]; rfl
  have q9 : (v.k == 9) = false := by rw [hkd]; rfl
  have HO : Hid (v.ownCbor = putHeadL 7 22) := Lib.hid (by unfold V.ownCbor; simp [hkd])
  have hon : (putHeadL 7 22).length ≤ 1048616 := by have h1 := V.ownCbor_len v; rw [HO.out] at h1; omega
  have hu0 : IntKind.u64.wrap (v.kids.length : Int) = (v.kids.length : Int) := by rw [IntKind.wrap_u64]; omega
  have hu1 : IntKind.u64.wrap ((v.kids.length : Int) / 2) = (v.kids.length : Int) / 2 := by rw [IntKind.wrap_u64]; omega
  clear hk hat hB hr hr3 hf hf3 hlen hkd
  have hb0 : Below w.heap.size w (w.alloc (.cells #[.int .i64 v.k, .int .i64 v.n, .int .i64 v.e, .string v.s, .slice A v.kids.length cap] 29)) := (Below.refl _ w).alloc (Nat.le_refl _) _
  obtain ⟨w0, hw0⟩ : ∃ w0, w0 = w.alloc (.cells #[.int .i64 v.k, .int .i64 v.n, .int .i64 v.e, .string v.s, .slice A v.kids.length cap] 29) := ⟨_, rfl⟩
  have B0 : Blk w0 w.heap.size 29 #[.int .i64 v.k, .int .i64 v.n, .int .i64 v.e, .string v.s, .slice A v.kids.length cap] := by rw [hw0]; exact Blk.new w _ _
  rw [← hw0] at hb0
  have k0 : OK8 b w w0 := (OK8.refl b w).below hb0
  have F0 : BF B b l w0 := HB.out.below hb0
  have hs0 := hb0.size
  have lv := B0.lt
  have HF0 := Lib.hid F0
  have HK0 := Lib.hid k0
  have HB0 := Lib.hid hb0
  have HV0 := Lib.hid B0
  obtain ⟨p0, p1, p2, p3, p4⟩ := B0.five
  clear F0 k0 hb0 B0
  unfold V.agg
  go_enter Tryd.func29, Tryd.ntmps29
  go_wp2_with fail
  rw [← hw0]
  clear hw0
  have HP := implPutHead 7 22 w0 (by omega)
  refine HP.mono ?_
  rintro e w1 ⟨rfl, hbx⟩
  clear HP
  go_wp2_with fail
  have hBx : B ≤ w1.heap.size := by have := hbx.size; omega
  have hsl : l.length + (str (putHeadL 7 22)).size ≤ 140737488355328 := by rw [size_str]; have := congrArg List.length HO.out; omega
  refine (bfWrite B b l _ w1 (HF0.out.below hbx) hsl hBx).mono ?_
  rintro e w2 ⟨rfl, F2, hb2, k2⟩
  rw [data_str, ← HO.out] at F2
  clear hsl p0 p1 p2 p3 p4
  have B2 := k2.blk (HV0.out.below hbx lv) (by omega) vt_ne
  have Kw : OK8 b w w2 := (HK0.out.below (hbx.mono (Nat.le_refl _))).trans k2
  have Bw : Below B w w2 := ((HB0.out.trans (hbx.mono hs0)).mono hBw).trans hb2
  have HF2 : Hid (BF B b (l ++ v.ownCbor) w2) := Lib.hid F2
  have HKw := Lib.hid Kw
  have HBw := Lib.hid Bw
  obtain ⟨p0, p1, p2, p3, p4⟩ := B2.five
  clear F2 Kw Bw B2 k2 hb2 hbx
  go_wp2_with fail
  go_loopw [99] (fun i wr => ∃ j : Nat, j ≤ v.kids.length ∧ i = .int .i64 j ∧ CbRel v B b l w j wr) (fun i _ => v.kids.length - (intOf i).toNat)
  case atStart => exact ⟨0, Nat.zero_le _, rfl, by simpa [Vs.cbor] using HF2.out, HBw.out, HKw.out⟩
  case round =>
    obtain ⟨j, hj, rfl, hr⟩ := hrel
    have HR := Lib.hid hr
    have hszr : B ≤ wr.heap.size := Nat.le_trans hBw hr.2.1.size
    clear hr p0 p1 p2 p3 p4
    by_cases hlt : j < v.kids.length
    · obtain ⟨bb, off, A', cap', rfl, g1, g2, g3, ⟨c0, c1, c2, c3, c4⟩, g5⟩ := Vs.at_get j hlt (Vs.at_below HA.out HR.out.2.1 (Nat.le_refl _))
      have G5 := Lib.hid g5
      have hbbl : bb < wr.heap.size := by omega
      clear g5
      go_wp2_with fail
      refine (HC.out j hlt A' cap' B b (l ++ (v.ownCbor ++ Vs.cbor (v.kids.take j))) _ ⟨_, HKR.out j hlt⟩ (HKF.out j hlt) (HKW.out j hlt) (cbrel_bound hlt HL.out) (Vs.at_alloc G5.out hszr _) (by simp; omega) (HR.out.1.alloc _)).mono ?_
      rintro e w3 ⟨rfl, F3, b3, k3⟩
      have hrel : CbRel v B b l w (j + 1) w3 := ⟨by rw [Vs.cbor_step v.kids j hlt]; simpa using F3, (HR.out.2.1.alloc hszr _).trans b3, (HR.out.2.2.alloc _).trans k3⟩
      have HREL := Lib.hid hrel
      clear F3 b3 k3 hrel c0 c1 c2 c3 c4
      go_wp2_with fail
      go_roundw
      case rel => exact ⟨j + 1, by omega, by go_num, HREL.out⟩
      case measure => simp [intOf]; omega
    · obtain rfl : j = v.kids.length := by omega
      go_wp2_with fail
      go_end0
      have h := HR.out
      unfold CbRel at h
      rw [List.take_length, ← HQ.out] at h
      exact ⟨rfl, h⟩

set_option maxHeartbeats 4000000 in
theorem implCbor_1 (v : V) (hk : ∀ i (h : i < v.kids.length), ImplCborSaid v.kids[i]) (hkd : v.k = 1) : ImplCborSaid v := by
  intro A cap B b l w hr hf hw hlen hat hBw hB
  obtain ⟨d, hr⟩ := hr
  have hr3 := (V.right_eq _ _).1 hr
  obtain ⟨hw1, hw2, hw3⟩ := V.weight_kids v
  have hl : v.kids.length ≤ 1048576 := by omega
  have hss : v.s.size ≤ 1048576 := by omega
  have hf3 := (V.fits_eq v).1 hf
  have hbl := hB.lt
  have hbB := hB.base
  have HKR := Lib.hid (fun (i : Nat) (h : i < v.kids.length) => (Vs.right_iff _ _).1 hr3.2.2 i h)
  have HKF := Lib.hid (fun (i : Nat) (h : i < v.kids.length) => Vs.fits_get i h hf3.2.2.1)
  have HKW := Lib.hid (fun (i : Nat) (h : i < v.kids.length) => (show (v.kids[i]).weight ≤ 1048576 by have := Vs.weight_get i h; omega))
  have HL := Lib.hid hlen
  have hol := own_le hlen
  have HC := Lib.hid hk
  have HA := Lib.hid hat
  have HB := Lib.hid hB
  have HQ := Lib.hid (V.cbor_eq v)
  have RN := Lib.hid hf3.2.2.2.2.1
  have RE := Lib.hid hf3.2.2.2.2.2
  have q0 : (v.k == 0) = false := by rw [hkd]; rfl
  have q1 : (v.k == 1) = true := by rw [hkd]; rfl
  have q2 : (v.k == 2) = false := by rw [hkd]; rfl
  have q3 : (v.k == 3) = false := by rw [hkd]; rfl
  have q4 : (v.k == 4) = false := by rw [hkd]; rfl
  have q5 : (v.k == 5) = false := by rw [hkd]; rfl
  have q6 : (v.k == 6) = false := by rw [hkd]; rfl
  have q7 : (v.k == 7) = false := by rw [hkd]; rfl
  have q8 : (v.k == 8) = false := by rw [hkd]; rfl
  have q9 : (v.k == 9) = false := by rw [hkd]; rfl
  have HO : Hid (v.ownCbor = putHeadL 7 20) := Lib.hid (by unfold V.ownCbor; simp [hkd])
  have hon : (putHeadL 7 20).length ≤ 1048616 := by have h1 := V.ownCbor_len v; rw [HO.out] at h1; omega
  have hu0 : IntKind.u64.wrap (v.kids.length : Int) = (v.kids.length : Int) := by rw [IntKind.wrap_u64]; omega
  have hu1 : IntKind.u64.wrap ((v.kids.length : Int) / 2) = (v.kids.length : Int) / 2 := by rw [IntKind.wrap_u64]; omega
  clear hk hat hB hr hr3 hf hf3 hlen hkd
  have hb0 : Below w.heap.size w (w.alloc (.cells #[.int .i64 v.k, .int .i64 v.n, .int .i64 v.e, .string v.s, .slice A v.kids.length cap] 29)) := (Below.refl _ w).alloc (Nat.le_refl _) _
  obtain ⟨w0, hw0⟩ : ∃ w0, w0 = w.alloc (.cells #[.int .i64 v.k, .int .i64 v.n, .int .i64 v.e, .string v.s, .slice A v.kids.length cap] 29) := ⟨_, rfl⟩
  have B0 : Blk w0 w.heap.size 29 #[.int .i64 v.k, .int .i64 v.n, .int .i64 v.e, .string v.s, .slice A v.kids.length cap] := by rw [hw0]; exact Blk.new w _ _
  rw [← hw0] at hb0
  have k0 : OK8 b w w0 := (OK8.refl b w).below hb0
  have F0 : BF B b l w0 := HB.out.below hb0
  have hs0 := hb0.size
  have lv := B0.lt
  have HF0 := Lib.hid F0
  have HK0 := Lib.hid k0
  have HB0 := Lib.hid hb0
  have HV0 := Lib.hid B0
  obtain ⟨p0, p1, p2, p3, p4⟩ := B0.five
  clear F0 k0 hb0 B0
  unfold V.agg
  go_enter Tryd.func29, Tryd.ntmps29
  go_wp2_with fail
  rw [← hw0]
  clear hw0
  have HP := implPutHead 7 20 w0 (by omega)
  refine HP.mono ?_
  rintro e w1 ⟨rfl, hbx⟩
  clear HP
  go_wp2_with fail
  have hBx : B ≤ w1.heap.size := by have := hbx.size; omega
  have hsl : l.length + (str (putHeadL 7 20)).size ≤ 140737488355328 := by rw [size_str]; have := congrArg List.length HO.out; omega
  refine (bfWrite B b l _ w1 (HF0.out.below hbx) hsl hBx).mono ?_
  rintro e w2 ⟨rfl, F2, hb2, k2⟩
  rw [data_str, ← HO.out] at F2
  clear hsl p0 p1 p2 p3 p4
  have B2 := k2.blk (HV0.out.below hbx lv) (by omega) vt_ne
  have Kw : OK8 b w w2 := (HK0.out.below (hbx.mono (Nat.le_refl _))).trans k2
  have Bw : Below B w w2 := ((HB0.out.trans (hbx.mono hs0)).mono hBw).trans hb2
  have HF2 : Hid (BF B b (l ++ v.ownCbor) w2) := Lib.hid F2
  have HKw := Lib.hid Kw
  have HBw := Lib.hid Bw
  obtain ⟨p0, p1, p2, p3, p4⟩ := B2.five
  clear F2 Kw Bw B2 k2 hb2 hbx
  go_wp2_with fail
  go_loopw [99] (fun i wr => ∃ j : Nat, j ≤ v.kids.length ∧ i = .int .i64 j ∧ CbRel v B b l w j wr) (fun i _ => v.kids.length - (intOf i).toNat)
  case atStart => exact ⟨0, Nat.zero_le _, rfl, by simpa [Vs.cbor] using HF2.out, HBw.out, HKw.out⟩
  case round =>
    obtain ⟨j, hj, rfl, hr⟩ := hrel
    have HR := Lib.hid hr
    have hszr : B ≤ wr.heap.size := Nat.le_trans hBw hr.2.1.size
    clear hr p0 p1 p2 p3 p4
    by_cases hlt : j < v.kids.length
    · obtain ⟨bb, off, A', cap', rfl, g1, g2, g3, ⟨c0, c1, c2, c3, c4⟩, g5⟩ := Vs.at_get j hlt (Vs.at_below HA.out HR.out.2.1 (Nat.le_refl _))
      have G5 := Lib.hid g5
      have hbbl : bb < wr.heap.size := by omega
      clear g5
      go_wp2_with fail
      refine (HC.out j hlt A' cap' B b (l ++ (v.ownCbor ++ Vs.cbor (v.kids.take j))) _ ⟨_, HKR.out j hlt⟩ (HKF.out j hlt) (HKW.out j hlt) (cbrel_bound hlt HL.out) (Vs.at_alloc G5.out hszr _) (by simp; omega) (HR.out.1.alloc _)).mono ?_
      rintro e w3 ⟨rfl, F3, b3, k3⟩
      have hrel : CbRel v B b l w (j + 1) w3 := ⟨by rw [Vs.cbor_step v.kids j hlt]; simpa using F3, (HR.out.2.1.alloc hszr _).trans b3, (HR.out.2.2.alloc _).trans k3⟩
      have HREL := Lib.hid hrel
      clear F3 b3 k3 hrel c0 c1 c2 c3 c4
      go_wp2_with fail
      go_roundw
      case rel => exact ⟨j + 1, by omega, by go_num, HREL.out⟩
      case measure => simp [intOf]; omega
    · obtain rfl : j = v.kids.length := by omega
      go_wp2_with fail
      go_end0
      have h := HR.out
      unfold CbRel at h
      rw [List.take_length, ← HQ.out] at h
      exact ⟨rfl, h⟩

set_option maxHeartbeats 4000000 in
theorem implCbor_2 (v : V) (hk : ∀ i (h : i < v.kids.length), ImplCborSaid v.kids[i]) (hkd : v.k = 2) : ImplCborSaid v := by
  intro A cap B b l w hr hf hw hlen hat hBw hB
  obtain ⟨d, hr⟩ := hr
  have hr3 := (V.right_eq _ _).1 hr
  obtain ⟨hw1, hw2, hw3⟩ := V.weight_kids v
  have hl : v.kids.length ≤ 1048576 := by omega
  have hss : v.s.size ≤ 1048576 := by omega
  have hf3 := (V.fits_eq v).1 hf
  have hbl := hB.lt
  have hbB := hB.base
  have HKR := Lib.hid (fun (i : Nat) (h : i < v.kids.length) => (Vs.right_iff _ _).1 hr3.2.2 i h)
  have HKF := Lib.hid (fun (i : Nat) (h : i < v.kids.length) => Vs.fits_get i h hf3.2.2.1)
  have HKW := Lib.hid (fun (i : Nat) (h : i < v.kids.length) => (show (v.kids[i]).weight ≤ 1048576 by have := Vs.weight_get i h; omega))
  have HL := Lib.hid hlen
  have hol := own_le hlen
  have HC := Lib.hid hk
  have HA := Lib.hid hat
  have HB := Lib.hid hB
  have HQ := Lib.hid (V.cbor_eq v)
  have RN := Lib.hid hf3.2.2.2.2.1
  have RE := Lib.hid hf3.2.2.2.2.2
  have q0 : (v.k == 0) = false := by rw [hkd]; rfl
  have q1 : (v.k == 1) = false := by rw [hkd]; rfl
  have q2 : (v.k == 2) = true := by rw [hkd]; rfl
  have q3 : (v.k == 3) = false := by rw [hkd]; rfl
  have q4 : (v.k == 4) = false := by rw [hkd]; rfl
  have q5 : (v.k == 5) = false := by rw [hkd]; rfl
  have q6 : (v.k == 6) = false := by rw [hkd]; rfl
  have q7 : (v.k == 7) = false := by rw [hkd]; rfl
  have q8 : (v.k == 8) = false := by rw [hkd]; rfl
  have q9 : (v.k == 9) = false := by rw [hkd]; rfl
  have HO : Hid (v.ownCbor = putHeadL 7 21) := Lib.hid (by unfold V.ownCbor; simp [hkd])
  have hon : (putHeadL 7 21).length ≤ 1048616 := by have h1 := V.ownCbor_len v; rw [HO.out] at h1; omega
  have hu0 : IntKind.u64.wrap (v.kids.length : Int) = (v.kids.length : Int) := by rw [IntKind.wrap_u64]; omega
  have hu1 : IntKind.u64.wrap ((v.kids.length : Int) / 2) = (v.kids.length : Int) / 2 := by rw [IntKind.wrap_u64]; omega
  clear hk hat hB hr hr3 hf hf3 hlen hkd
  have hb0 : Below w.heap.size w (w.alloc (.cells #[.int .i64 v.k, .int .i64 v.n, .int .i64 v.e, .string v.s, .slice A v.kids.length cap] 29)) := (Below.refl _ w).alloc (Nat.le_refl _) _
  obtain ⟨w0, hw0⟩ : ∃ w0, w0 = w.alloc (.cells #[.int .i64 v.k, .int .i64 v.n, .int .i64 v.e, .string v.s, .slice A v.kids.length cap] 29) := ⟨_, rfl⟩
  have B0 : Blk w0 w.heap.size 29 #[.int .i64 v.k, .int .i64 v.n, .int .i64 v.e, .string v.s, .slice A v.kids.length cap] := by rw [hw0]; exact Blk.new w _ _
  rw [← hw0] at hb0
  have k0 : OK8 b w w0 := (OK8.refl b w).below hb0
  have F0 : BF B b l w0 := HB.out.below hb0
  have hs0 := hb0.size
  have lv := B0.lt
  have HF0 := Lib.hid F0
  have HK0 := Lib.hid k0
  have HB0 := Lib.hid hb0
  have HV0 := Lib.hid B0
  obtain ⟨p0, p1, p2, p3, p4⟩ := B0.five
  clear F0 k0 hb0 B0
  unfold V.agg
  go_enter Tryd.func29, Tryd.ntmps29
  go_wp2_with fail
  rw [← hw0]
  clear hw0
  have HP := implPutHead 7 21 w0 (by omega)
  refine HP.mono ?_
  rintro e w1 ⟨rfl, hbx⟩
  clear HP
  go_wp2_with fail
  have hBx : B ≤ w1.heap.size := by have := hbx.size; omega
  have hsl : l.length + (str (putHeadL 7 21)).size ≤ 140737488355328 := by rw [size_str]; have := congrArg List.length HO.out; omega
  refine (bfWrite B b l _ w1 (HF0.out.below hbx) hsl hBx).mono ?_
  rintro e w2 ⟨rfl, F2, hb2, k2⟩
  rw [data_str, ← HO.out] at F2
  clear hsl p0 p1 p2 p3 p4
  have B2 := k2.blk (HV0.out.below hbx lv) (by omega) vt_ne
  have Kw : OK8 b w w2 := (HK0.out.below (hbx.mono (Nat.le_refl _))).trans k2
  have Bw : Below B w w2 := ((HB0.out.trans (hbx.mono hs0)).mono hBw).trans hb2
  have HF2 : Hid (BF B b (l ++ v.ownCbor) w2) := Lib.hid F2
  have HKw := Lib.hid Kw
  have HBw := Lib.hid Bw
  obtain ⟨p0, p1, p2, p3, p4⟩ := B2.five
  clear F2 Kw Bw B2 k2 hb2 hbx
  go_wp2_with fail
  go_loopw [99] (fun i wr => ∃ j : Nat, j ≤ v.kids.length ∧ i = .int .i64 j ∧ CbRel v B b l w j wr) (fun i _ => v.kids.length - (intOf i).toNat)
  case atStart => exact ⟨0, Nat.zero_le _, rfl, by simpa [Vs.cbor] using HF2.out, HBw.out, HKw.out⟩
  case round =>
    obtain ⟨j, hj, rfl, hr⟩ := hrel
    have HR := Lib.hid hr
    have hszr : B ≤ wr.heap.size := Nat.le_trans hBw hr.2.1.size
    clear hr p0 p1 p2 p3 p4
    by_cases hlt : j < v.kids.length
    · obtain ⟨bb, off, A', cap', rfl, g1, g2, g3, ⟨c0, c1, c2, c3, c4⟩, g5⟩ := Vs.at_get j hlt (Vs.at_below HA.out HR.out.2.1 (Nat.le_refl _))
      have G5 := Lib.hid g5
      have hbbl : bb < wr.heap.size := by omega
      clear g5
      go_wp2_with fail
      refine (HC.out j hlt A' cap' B b (l ++ (v.ownCbor ++ Vs.cbor (v.kids.take j))) _ ⟨_, HKR.out j hlt⟩ (HKF.out j hlt) (HKW.out j hlt) (cbrel_bound hlt HL.out) (Vs.at_alloc G5.out hszr _) (by simp; omega) (HR.out.1.alloc _)).mono ?_
      rintro e w3 ⟨rfl, F3, b3, k3⟩
      have hrel : CbRel v B b l w (j + 1) w3 := ⟨by rw [Vs.cbor_step v.kids j hlt]; simpa using F3, (HR.out.2.1.alloc hszr _).trans b3, (HR.out.2.2.alloc _).trans k3⟩
      have HREL := Lib.hid hrel
      clear F3 b3 k3 hrel c0 c1 c2 c3 c4
      go_wp2_with fail
      go_roundw
      case rel => exact ⟨j + 1, by omega, by go_num, HREL.out⟩
      case measure => simp [intOf]; omega
    · obtain rfl : j = v.kids.length := by omega
      go_wp2_with fail
      go_end0
      have h := HR.out
      unfold CbRel at h
      rw [List.take_length, ← HQ.out] at h
      exact ⟨rfl, h⟩

set_option maxHeartbeats 4000000 in
theorem implCbor_3 (v : V) (hk : ∀ i (h : i < v.kids.length), ImplCborSaid v.kids[i]) (hkd : v.k = 3) : ImplCborSaid v := by
  intro A cap B b l w hr hf hw hlen hat hBw hB
  obtain ⟨d, hr⟩ := hr
  have hr3 := (V.right_eq _ _).1 hr
  obtain ⟨hw1, hw2, hw3⟩ := V.weight_kids v
  have hl : v.kids.length ≤ 1048576 := by omega
  have hss : v.s.size ≤ 1048576 := by omega
  have hf3 := (V.fits_eq v).1 hf
  have hbl := hB.lt
  have hbB := hB.base
  have HKR := Lib.hid (fun (i : Nat) (h : i < v.kids.length) => (Vs.right_iff _ _).1 hr3.2.2 i h)
  have HKF := Lib.hid (fun (i : Nat) (h : i < v.kids.length) => Vs.fits_get i h hf3.2.2.1)
  have HKW := Lib.hid (fun (i : Nat) (h : i < v.kids.length) => (show (v.kids[i]).weight ≤ 1048576 by have := Vs.weight_get i h; omega))
  have HL := Lib.hid hlen
  have hol := own_le hlen
  have HC := Lib.hid hk
  have HA := Lib.hid hat
  have HB := Lib.hid hB
  have HQ := Lib.hid (V.cbor_eq v)
  have RN := Lib.hid hf3.2.2.2.2.1
  have RE := Lib.hid hf3.2.2.2.2.2
  have q0 : (v.k == 0) = false := by rw [hkd]; rfl
  have q1 : (v.k == 1) = false := by rw [hkd]; rfl
  have q2 : (v.k == 2) = false := by rw [hkd]; rfl
  have q3 : (v.k == 3) = true := by rw [hkd]; rfl
  have q4 : (v.k == 4) = false := by rw [hkd]; rfl
  have q5 : (v.k == 5) = false := by rw [hkd]; rfl
  have q6 : (v.k == 6) = false := by rw [hkd]; rfl
  have q7 : (v.k == 7) = false := by rw [hkd]; rfl
  have q8 : (v.k == 8) = false := by rw [hkd]; rfl
  have q9 : (v.k == 9) = false := by rw [hkd]; rfl
  have HO : Hid (v.ownCbor = cborInt v.n) := Lib.hid (by unfold V.ownCbor; simp [hkd])
  have hon : (cborInt v.n).length ≤ 1048616 := by have h1 := V.ownCbor_len v; rw [HO.out] at h1; omega
  have hu0 : IntKind.u64.wrap (v.kids.length : Int) = (v.kids.length : Int) := by rw [IntKind.wrap_u64]; omega
  have hu1 : IntKind.u64.wrap ((v.kids.length : Int) / 2) = (v.kids.length : Int) / 2 := by rw [IntKind.wrap_u64]; omega
  clear hk hat hB hr hr3 hf hf3 hlen hkd
  have hb0 : Below w.heap.size w (w.alloc (.cells #[.int .i64 v.k, .int .i64 v.n, .int .i64 v.e, .string v.s, .slice A v.kids.length cap] 29)) := (Below.refl _ w).alloc (Nat.le_refl _) _
  obtain ⟨w0, hw0⟩ : ∃ w0, w0 = w.alloc (.cells #[.int .i64 v.k, .int .i64 v.n, .int .i64 v.e, .string v.s, .slice A v.kids.length cap] 29) := ⟨_, rfl⟩
  have B0 : Blk w0 w.heap.size 29 #[.int .i64 v.k, .int .i64 v.n, .int .i64 v.e, .string v.s, .slice A v.kids.length cap] := by rw [hw0]; exact Blk.new w _ _
  rw [← hw0] at hb0
  have k0 : OK8 b w w0 := (OK8.refl b w).below hb0
  have F0 : BF B b l w0 := HB.out.below hb0
  have hs0 := hb0.size
  have lv := B0.lt
  have HF0 := Lib.hid F0
  have HK0 := Lib.hid k0
  have HB0 := Lib.hid hb0
  have HV0 := Lib.hid B0
  obtain ⟨p0, p1, p2, p3, p4⟩ := B0.five
  clear F0 k0 hb0 B0
  unfold V.agg
  go_enter Tryd.func29, Tryd.ntmps29
  go_wp2_with fail
  rw [← hw0]
  clear hw0
  refine (implPutInt v.n w0 RN.out).mono ?_
  rintro e w1 ⟨rfl, hbx⟩
  go_wp2_with fail
  have hBx : B ≤ w1.heap.size := by have := hbx.size; omega
  have hsl : l.length + (str (cborInt v.n)).size ≤ 140737488355328 := by rw [size_str]; have := congrArg List.length HO.out; omega
  refine (bfWrite B b l _ w1 (HF0.out.below hbx) hsl hBx).mono ?_
  rintro e w2 ⟨rfl, F2, hb2, k2⟩
  rw [data_str, ← HO.out] at F2
  clear hsl p0 p1 p2 p3 p4
  have B2 := k2.blk (HV0.out.below hbx lv) (by omega) vt_ne
  have Kw : OK8 b w w2 := (HK0.out.below (hbx.mono (Nat.le_refl _))).trans k2
  have Bw : Below B w w2 := ((HB0.out.trans (hbx.mono hs0)).mono hBw).trans hb2
  have HF2 : Hid (BF B b (l ++ v.ownCbor) w2) := Lib.hid F2
  have HKw := Lib.hid Kw
  have HBw := Lib.hid Bw
  obtain ⟨p0, p1, p2, p3, p4⟩ := B2.five
  clear F2 Kw Bw B2 k2 hb2 hbx
  go_wp2_with fail
  go_loopw [99] (fun i wr => ∃ j : Nat, j ≤ v.kids.length ∧ i = .int .i64 j ∧ CbRel v B b l w j wr) (fun i _ => v.kids.length - (intOf i).toNat)
  case atStart => exact ⟨0, Nat.zero_le _, rfl, by simpa [Vs.cbor] using HF2.out, HBw.out, HKw.out⟩
  case round =>
    obtain ⟨j, hj, rfl, hr⟩ := hrel
    have HR := Lib.hid hr
    have hszr : B ≤ wr.heap.size := Nat.le_trans hBw hr.2.1.size
    clear hr p0 p1 p2 p3 p4
    by_cases hlt : j < v.kids.length
    · obtain ⟨bb, off, A', cap', rfl, g1, g2, g3, ⟨c0, c1, c2, c3, c4⟩, g5⟩ := Vs.at_get j hlt (Vs.at_below HA.out HR.out.2.1 (Nat.le_refl _))
      have G5 := Lib.hid g5
      have hbbl : bb < wr.heap.size := by omega
      clear g5
      go_wp2_with fail
      refine (HC.out j hlt A' cap' B b (l ++ (v.ownCbor ++ Vs.cbor (v.kids.take j))) _ ⟨_, HKR.out j hlt⟩ (HKF.out j hlt) (HKW.out j hlt) (cbrel_bound hlt HL.out) (Vs.at_alloc G5.out hszr _) (by simp; omega) (HR.out.1.alloc _)).mono ?_
      rintro e w3 ⟨rfl, F3, b3, k3⟩
      have hrel : CbRel v B b l w (j + 1) w3 := ⟨by rw [Vs.cbor_step v.kids j hlt]; simpa using F3, (HR.out.2.1.alloc hszr _).trans b3, (HR.out.2.2.alloc _).trans k3⟩
      have HREL := Lib.hid hrel
      clear F3 b3 k3 hrel c0 c1 c2 c3 c4
      go_wp2_with fail
      go_roundw
      case rel => exact ⟨j + 1, by omega, by go_num, HREL.out⟩
      case measure => simp [intOf]; omega
    · obtain rfl : j = v.kids.length := by omega
      go_wp2_with fail
      go_end0
      have h := HR.out
      unfold CbRel at h
      rw [List.take_length, ← HQ.out] at h
      exact ⟨rfl, h⟩

set_option maxHeartbeats 4000000 in
theorem implCbor_4 (v : V) (hk : ∀ i (h : i < v.kids.length), ImplCborSaid v.kids[i]) (hkd : v.k = 4) : ImplCborSaid v := by
  intro A cap B b l w hr hf hw hlen hat hBw hB
  obtain ⟨d, hr⟩ := hr
  have hr3 := (V.right_eq _ _).1 hr
  obtain ⟨hw1, hw2, hw3⟩ := V.weight_kids v
  have hl : v.kids.length ≤ 1048576 := by omega
  have hss : v.s.size ≤ 1048576 := by omega
  have hf3 := (V.fits_eq v).1 hf
  have hbl := hB.lt
  have hbB := hB.base
  have HKR := Lib.hid (fun (i : Nat) (h : i < v.kids.length) => (Vs.right_iff _ _).1 hr3.2.2 i h)
  have HKF := Lib.hid (fun (i : Nat) (h : i < v.kids.length) => Vs.fits_get i h hf3.2.2.1)
  have HKW := Lib.hid (fun (i : Nat) (h : i < v.kids.length) => (show (v.kids[i]).weight ≤ 1048576 by have := Vs.weight_get i h; omega))
  have HL := Lib.hid hlen
  have hol := own_le hlen
  have HC := Lib.hid hk
  have HA := Lib.hid hat
  have HB := Lib.hid hB
  have HQ := Lib.hid (V.cbor_eq v)
  have RN := Lib.hid hf3.2.2.2.2.1
  have RE := Lib.hid hf3.2.2.2.2.2
  have q0 : (v.k == 0) = false := by rw [hkd]; rfl
  have q1 : (v.k == 1) = false := by rw [hkd]; rfl
  have q2 : (v.k == 2) = false := by rw [hkd]; rfl
  have q3 : (v.k == 3) = false := by rw [hkd]; rfl
  have q4 : (v.k == 4) = true := by rw [hkd]; rfl
  have q5 : (v.k == 5) = false := by rw [hkd]; rfl
  have q6 : (v.k == 6) = false := by rw [hkd]; rfl
  have q7 : (v.k == 7) = false := by rw [hkd]; rfl
  have q8 : (v.k == 8) = false := by rw [hkd]; rfl
  have q9 : (v.k == 9) = false := by rw [hkd]; rfl
  have HO : Hid (v.ownCbor = putHeadL 6 4 ++ (putHeadL 4 2 ++ (cborInt v.e ++ cborInt v.n))) := Lib.hid (by unfold V.ownCbor; simp [hkd])
  have hon : (putHeadL 6 4 ++ (putHeadL 4 2 ++ (cborInt v.e ++ cborInt v.n))).length ≤ 1048616 := by have h1 := V.ownCbor_len v; rw [HO.out] at h1; omega
  have hu0 : IntKind.u64.wrap (v.kids.length : Int) = (v.kids.length : Int) := by rw [IntKind.wrap_u64]; omega
  have hu1 : IntKind.u64.wrap ((v.kids.length : Int) / 2) = (v.kids.length : Int) / 2 := by rw [IntKind.wrap_u64]; omega
  clear hk hat hB hr hr3 hf hf3 hlen hkd
  have hb0 : Below w.heap.size w (w.alloc (.cells #[.int .i64 v.k, .int .i64 v.n, .int .i64 v.e, .string v.s, .slice A v.kids.length cap] 29)) := (Below.refl _ w).alloc (Nat.le_refl _) _
  obtain ⟨w0, hw0⟩ : ∃ w0, w0 = w.alloc (.cells #[.int .i64 v.k, .int .i64 v.n, .int .i64 v.e, .string v.s, .slice A v.kids.length cap] 29) := ⟨_, rfl⟩
  have B0 : Blk w0 w.heap.size 29 #[.int .i64 v.k, .int .i64 v.n, .int .i64 v.e, .string v.s, .slice A v.kids.length cap] := by rw [hw0]; exact Blk.new w _ _
  rw [← hw0] at hb0
  have k0 : OK8 b w w0 := (OK8.refl b w).below hb0
  have F0 : BF B b l w0 := HB.out.below hb0
  have hs0 := hb0.size
  have lv := B0.lt
  have HF0 := Lib.hid F0
  have HK0 := Lib.hid k0
  have HB0 := Lib.hid hb0
  have HV0 := Lib.hid B0
  obtain ⟨p0, p1, p2, p3, p4⟩ := B0.five
  clear F0 k0 hb0 B0
  unfold V.agg
  go_enter Tryd.func29, Tryd.ntmps29
  go_wp2_with fail
  rw [← hw0]
  clear hw0
  have keep0 : ∀ w' : World, Below w0.heap.size w0 w' → w'.cell? ⟨w.heap.size, 1, none⟩ = some (.int .i64 v.n) ∧ w'.cell? ⟨w.heap.size, 2, none⟩ = some (.int .i64 v.e) ∧ w'.cell? ⟨w.heap.size, 4, none⟩ = some (.slice A v.kids.length cap) := fun w' hb => ⟨(HV0.out.below hb lv).cell 1, (HV0.out.below hb lv).cell 2, (HV0.out.below hb lv).cell 4⟩
  have KE := Lib.hid keep0
  have hbr : Below w0.heap.size w0 w0 := Below.refl _ _
  have KW : Hid (∀ w1 w2 : World, Below w0.heap.size w0 w1 → OK8 b w1 w2 → w2.cell? ⟨w.heap.size, 1, none⟩ = some (.int .i64 v.n) ∧ w2.cell? ⟨w.heap.size, 2, none⟩ = some (.int .i64 v.e) ∧ w2.cell? ⟨w.heap.size, 4, none⟩ = some (.slice A v.kids.length cap)) := Lib.hid (fun w1 w2 h1 h2 => ⟨(h2.blk (HV0.out.below h1 lv) (by omega) vt_ne).cell 1, (h2.blk (HV0.out.below h1 lv) (by omega) vt_ne).cell 2, (h2.blk (HV0.out.below h1 lv) (by omega) vt_ne).cell 4⟩)
  clear keep0 p0 p3
  have n1 := putHeadL_len 6 4
  have n2 := putHeadL_len 4 2
  have n3 := cborInt_len v.e
  have n4 := cborInt_len v.n
  have hadd1 : ∀ W : World, (Op.stringOp .add (str (putHeadL 6 4)) (str (putHeadL 4 2))).run Tryd.prog W = .ok (.string (str (putHeadL 6 4 ++ putHeadL 4 2))) W := fun W => str_sum _ _ (by omega) W
  have hadd2 : ∀ W : World, (Op.stringOp .add (str (putHeadL 6 4 ++ putHeadL 4 2)) (str (cborInt v.e))).run Tryd.prog W = .ok (.string (str (putHeadL 6 4 ++ (putHeadL 4 2 ++ cborInt v.e)))) W := fun W => by rw [← List.append_assoc]; exact str_sum _ _ (by rw [List.length_append]; omega) W
  have hadd3 : ∀ W : World, (Op.stringOp .add (str (putHeadL 6 4 ++ (putHeadL 4 2 ++ cborInt v.e))) (str (cborInt v.n))).run Tryd.prog W = .ok (.string (str (putHeadL 6 4 ++ (putHeadL 4 2 ++ (cborInt v.e ++ cborInt v.n))))) W := fun W => by
    have h := str_sum (P := Tryd.prog) (putHeadL 6 4 ++ (putHeadL 4 2 ++ cborInt v.e)) (cborInt v.n) (by rw [List.length_append, List.length_append]; omega) W
    rw [List.append_assoc, List.append_assoc] at h
    exact h
  go_region_held3 (fun w' => w'.cell? ⟨w.heap.size, 1, none⟩ = some (.int .i64 v.n) ∧ w'.cell? ⟨w.heap.size, 2, none⟩ = some (.int .i64 v.e) ∧ w'.cell? ⟨w.heap.size, 4, none⟩ = some (.slice A v.kids.length cap)) (first | exact KW.out _ _ hbx k2 | exact KE.out _ hbx | exact KE.out _ hbc | exact KE.out _ hbb | exact KE.out _ hba | exact KE.out _ hbr.drew | exact KE.out _ hbr)
    (first
    | (have hgate := hbx; clear hgate; go_at_call 37; refine (bfWrite B b l _ w1 (HF0.out.below hbx) (by rw [size_str, List.length_append, List.length_append, List.length_append]; omega) (by have := hbx.size; omega)).mono ?_; rintro e w2 ⟨rfl, F2, hb2, k2⟩; rw [data_str, ← HO.out] at F2)
    | (have hgate := hbc; clear hgate; go_at_call 46; refine (implPutInt v.n wc RN.out).mono ?_; rintro e w1 ⟨rfl, hbx'⟩; have hbx : Below w0.heap.size w0 w1 := hbc.trans (hbx'.mono hbc.size))
    | (have hgate := hbb; clear hgate; go_at_call 46; refine (implPutInt v.e wb RE.out).mono ?_; rintro e wc ⟨rfl, hbc'⟩; have hbc : Below w0.heap.size w0 wc := hbb.trans (hbc'.mono hbb.size))
    | (have hgate := hba; clear hgate; go_at_call 47; refine (implPutHead 4 2 wa (by omega)).mono ?_; rintro e wb ⟨rfl, hbb'⟩; have hbb : Below w0.heap.size w0 wb := hba.trans (hbb'.mono hba.size))
    | (go_at_call 47; refine (implPutHead 6 4 w0.drew (by omega)).mono ?_; rintro e wa ⟨rfl, hba'⟩; have hba : Below w0.heap.size w0 wa := hbr.drew.trans hba'))
  clear KE KW hbr hadd1 hadd2 hadd3 hba hbb hbc hba' hbb' hbc' p1 p2 p4
  have B2 := k2.blk (HV0.out.below hbx lv) (by omega) vt_ne
  have Kw : OK8 b w w2 := (HK0.out.below (hbx.mono (Nat.le_refl _))).trans k2
  have Bw : Below B w w2 := ((HB0.out.trans (hbx.mono hs0)).mono hBw).trans hb2
  have HF2 : Hid (BF B b (l ++ v.ownCbor) w2) := Lib.hid F2
  have HKw := Lib.hid Kw
  have HBw := Lib.hid Bw
  obtain ⟨p0, p1, p2, p3, p4⟩ := B2.five
  clear F2 Kw Bw B2 k2 hb2 hbx
  go_wp2_with fail
  go_loopw [99] (fun i wr => ∃ j : Nat, j ≤ v.kids.length ∧ i = .int .i64 j ∧ CbRel v B b l w j wr) (fun i _ => v.kids.length - (intOf i).toNat)
  case atStart => exact ⟨0, Nat.zero_le _, rfl, by simpa [Vs.cbor] using HF2.out, HBw.out, HKw.out⟩
  case round =>
    obtain ⟨j, hj, rfl, hr⟩ := hrel
    have HR := Lib.hid hr
    have hszr : B ≤ wr.heap.size := Nat.le_trans hBw hr.2.1.size
    clear hr p0 p1 p2 p3 p4
    by_cases hlt : j < v.kids.length
    · obtain ⟨bb, off, A', cap', rfl, g1, g2, g3, ⟨c0, c1, c2, c3, c4⟩, g5⟩ := Vs.at_get j hlt (Vs.at_below HA.out HR.out.2.1 (Nat.le_refl _))
      have G5 := Lib.hid g5
      have hbbl : bb < wr.heap.size := by omega
      clear g5
      go_wp2_with fail
      refine (HC.out j hlt A' cap' B b (l ++ (v.ownCbor ++ Vs.cbor (v.kids.take j))) _ ⟨_, HKR.out j hlt⟩ (HKF.out j hlt) (HKW.out j hlt) (cbrel_bound hlt HL.out) (Vs.at_alloc G5.out hszr _) (by simp; omega) (HR.out.1.alloc _)).mono ?_
      rintro e w3 ⟨rfl, F3, b3, k3⟩
      have hrel : CbRel v B b l w (j + 1) w3 := ⟨by rw [Vs.cbor_step v.kids j hlt]; simpa using F3, (HR.out.2.1.alloc hszr _).trans b3, (HR.out.2.2.alloc _).trans k3⟩
      have HREL := Lib.hid hrel
      clear F3 b3 k3 hrel c0 c1 c2 c3 c4
      go_wp2_with fail
      go_roundw
      case rel => exact ⟨j + 1, by omega, by go_num, HREL.out⟩
      case measure => simp [intOf]; omega
    · obtain rfl : j = v.kids.length := by omega
      go_wp2_with fail
      go_end0
      have h := HR.out
      unfold CbRel at h
      rw [List.take_length, ← HQ.out] at h
      exact ⟨rfl, h⟩

set_option maxHeartbeats 4000000 in
theorem implCbor_5 (v : V) (hk : ∀ i (h : i < v.kids.length), ImplCborSaid v.kids[i]) (hkd : v.k = 5) : ImplCborSaid v := by
  intro A cap B b l w hr hf hw hlen hat hBw hB
  obtain ⟨d, hr⟩ := hr
  have hr3 := (V.right_eq _ _).1 hr
  obtain ⟨hw1, hw2, hw3⟩ := V.weight_kids v
  have hl : v.kids.length ≤ 1048576 := by omega
  have hss : v.s.size ≤ 1048576 := by omega
  have hf3 := (V.fits_eq v).1 hf
  have hbl := hB.lt
  have hbB := hB.base
  have HKR := Lib.hid (fun (i : Nat) (h : i < v.kids.length) => (Vs.right_iff _ _).1 hr3.2.2 i h)
  have HKF := Lib.hid (fun (i : Nat) (h : i < v.kids.length) => Vs.fits_get i h hf3.2.2.1)
  have HKW := Lib.hid (fun (i : Nat) (h : i < v.kids.length) => (show (v.kids[i]).weight ≤ 1048576 by have := Vs.weight_get i h; omega))
  have HL := Lib.hid hlen
  have hol := own_le hlen
  have HC := Lib.hid hk
  have HA := Lib.hid hat
  have HB := Lib.hid hB
  have HQ := Lib.hid (V.cbor_eq v)
  have RN := Lib.hid hf3.2.2.2.2.1
  have RE := Lib.hid hf3.2.2.2.2.2
  have q0 : (v.k == 0) = false := by rw [hkd]; rfl
  have q1 : (v.k == 1) = false := by rw [hkd]; rfl
  have q2 : (v.k == 2) = false := by rw [hkd]; rfl
  have q3 : (v.k == 3) = false := by rw [hkd]; rfl
  have q4 : (v.k == 4) = false := by rw [hkd]; rfl
  have q5 : (v.k == 5) = true := by rw [hkd]; rfl
  have q6 : (v.k == 6) = false := by rw [hkd]; rfl
  have q7 : (v.k == 7) = false := by rw [hkd]; rfl
  have q8 : (v.k == 8) = false := by rw [hkd]; rfl
  have q9 : (v.k == 9) = false := by rw [hkd]; rfl
  have HO : Hid (v.ownCbor = putHeadL 3 v.s.size ++ v.s.data.toList) := Lib.hid (by unfold V.ownCbor; simp [hkd])
  have hon : (putHeadL 3 v.s.size ++ v.s.data.toList).length ≤ 1048616 := by have h1 := V.ownCbor_len v; rw [HO.out] at h1; omega
  have hu0 : IntKind.u64.wrap (v.kids.length : Int) = (v.kids.length : Int) := by rw [IntKind.wrap_u64]; omega
  have hu1 : IntKind.u64.wrap ((v.kids.length : Int) / 2) = (v.kids.length : Int) / 2 := by rw [IntKind.wrap_u64]; omega
  clear hk hat hB hr hr3 hf hf3 hlen hkd
  have hb0 : Below w.heap.size w (w.alloc (.cells #[.int .i64 v.k, .int .i64 v.n, .int .i64 v.e, .string v.s, .slice A v.kids.length cap] 29)) := (Below.refl _ w).alloc (Nat.le_refl _) _
  obtain ⟨w0, hw0⟩ : ∃ w0, w0 = w.alloc (.cells #[.int .i64 v.k, .int .i64 v.n, .int .i64 v.e, .string v.s, .slice A v.kids.length cap] 29) := ⟨_, rfl⟩
  have B0 : Blk w0 w.heap.size 29 #[.int .i64 v.k, .int .i64 v.n, .int .i64 v.e, .string v.s, .slice A v.kids.length cap] := by rw [hw0]; exact Blk.new w _ _
  rw [← hw0] at hb0
  have k0 : OK8 b w w0 := (OK8.refl b w).below hb0
  have F0 : BF B b l w0 := HB.out.below hb0
  have hs0 := hb0.size
  have lv := B0.lt
  have HF0 := Lib.hid F0
  have HK0 := Lib.hid k0
  have HB0 := Lib.hid hb0
  have HV0 := Lib.hid B0
  obtain ⟨p0, p1, p2, p3, p4⟩ := B0.five
  clear F0 k0 hb0 B0
  unfold V.agg
  go_enter Tryd.func29, Tryd.ntmps29
  go_wp2_with fail
  rw [← hw0]
  clear hw0
  have keep0 : ∀ w' : World, Below w0.heap.size w0 w' → w'.cell? ⟨w.heap.size, 3, none⟩ = some (.string v.s) ∧ w'.cell? ⟨w.heap.size, 4, none⟩ = some (.slice A v.kids.length cap) := fun w' hb => ⟨(HV0.out.below hb lv).cell 3, (HV0.out.below hb lv).cell 4⟩
  have KE := Lib.hid keep0
  have hbr : Below w0.heap.size w0 w0 := Below.refl _ _
  have KW : Hid (∀ w1 w2 : World, Below w0.heap.size w0 w1 → OK8 b w1 w2 → w2.cell? ⟨w.heap.size, 3, none⟩ = some (.string v.s) ∧ w2.cell? ⟨w.heap.size, 4, none⟩ = some (.slice A v.kids.length cap)) := Lib.hid (fun w1 w2 h1 h2 => ⟨(h2.blk (HV0.out.below h1 lv) (by omega) vt_ne).cell 3, (h2.blk (HV0.out.below h1 lv) (by omega) vt_ne).cell 4⟩)
  have hs1 : IntKind.u64.wrap (v.s.size : Int) = (v.s.size : Int) := by rw [IntKind.wrap_u64]; omega
  clear keep0 p0 p1 p2
  have hadd : ∀ W : World, (Op.stringOp .add (str (putHeadL 3 v.s.size)) v.s).run Tryd.prog W = .ok (.string (str (putHeadL 3 v.s.size ++ v.s.data.toList))) W := fun W => by
    have h := str_sum (P := Tryd.prog) (putHeadL 3 v.s.size) v.s.data.toList (by have h1 := putHeadL_len 3 v.s.size; have h2 : v.s.data.toList.length = v.s.size := rfl; omega) W
    rwa [show str v.s.data.toList = v.s by simp [str]] at h
  go_region_held3 (fun w' => w'.cell? ⟨w.heap.size, 3, none⟩ = some (.string v.s) ∧ w'.cell? ⟨w.heap.size, 4, none⟩ = some (.slice A v.kids.length cap)) (first | exact KW.out _ _ hbx k2 | exact KE.out _ hbx | exact KE.out _ hbr.drew | exact KE.out _ hbr)
    (first
    | (have hgate := hbx; clear hgate; go_at_call 37; refine (bfWrite B b l _ w1 (HF0.out.below hbx) (by rw [size_str]; omega) (by have := hbx.size; omega)).mono ?_; rintro e w2 ⟨rfl, F2, hb2, k2⟩; rw [data_str, ← HO.out] at F2)
    | (go_at_call 47; refine (implPutHead 3 v.s.size w0.drew (by omega)).mono ?_; rintro e w1 ⟨rfl, hbx'⟩; have hbx : Below w0.heap.size w0 w1 := hbr.drew.trans hbx'))
  clear KE KW hbr hadd hs1 p3 p4
  have B2 := k2.blk (HV0.out.below hbx lv) (by omega) vt_ne
  have Kw : OK8 b w w2 := (HK0.out.below (hbx.mono (Nat.le_refl _))).trans k2
  have Bw : Below B w w2 := ((HB0.out.trans (hbx.mono hs0)).mono hBw).trans hb2
  have HF2 : Hid (BF B b (l ++ v.ownCbor) w2) := Lib.hid F2
  have HKw := Lib.hid Kw
  have HBw := Lib.hid Bw
  obtain ⟨p0, p1, p2, p3, p4⟩ := B2.five
  clear F2 Kw Bw B2 k2 hb2 hbx
  go_wp2_with fail
  go_loopw [99] (fun i wr => ∃ j : Nat, j ≤ v.kids.length ∧ i = .int .i64 j ∧ CbRel v B b l w j wr) (fun i _ => v.kids.length - (intOf i).toNat)
  case atStart => exact ⟨0, Nat.zero_le _, rfl, by simpa [Vs.cbor] using HF2.out, HBw.out, HKw.out⟩
  case round =>
    obtain ⟨j, hj, rfl, hr⟩ := hrel
    have HR := Lib.hid hr
    have hszr : B ≤ wr.heap.size := Nat.le_trans hBw hr.2.1.size
    clear hr p0 p1 p2 p3 p4
    by_cases hlt : j < v.kids.length
    · obtain ⟨bb, off, A', cap', rfl, g1, g2, g3, ⟨c0, c1, c2, c3, c4⟩, g5⟩ := Vs.at_get j hlt (Vs.at_below HA.out HR.out.2.1 (Nat.le_refl _))
      have G5 := Lib.hid g5
      have hbbl : bb < wr.heap.size := by omega
      clear g5
      go_wp2_with fail
      refine (HC.out j hlt A' cap' B b (l ++ (v.ownCbor ++ Vs.cbor (v.kids.take j))) _ ⟨_, HKR.out j hlt⟩ (HKF.out j hlt) (HKW.out j hlt) (cbrel_bound hlt HL.out) (Vs.at_alloc G5.out hszr _) (by simp; omega) (HR.out.1.alloc _)).mono ?_
      rintro e w3 ⟨rfl, F3, b3, k3⟩
      have hrel : CbRel v B b l w (j + 1) w3 := ⟨by rw [Vs.cbor_step v.kids j hlt]; simpa using F3, (HR.out.2.1.alloc hszr _).trans b3, (HR.out.2.2.alloc _).trans k3⟩
      have HREL := Lib.hid hrel
      clear F3 b3 k3 hrel c0 c1 c2 c3 c4
      go_wp2_with fail
      go_roundw
      case rel => exact ⟨j + 1, by omega, by go_num, HREL.out⟩
      case measure => simp [intOf]; omega
    · obtain rfl : j = v.kids.length := by omega
      go_wp2_with fail
      go_end0
      have h := HR.out
      unfold CbRel at h
      rw [List.take_length, ← HQ.out] at h
      exact ⟨rfl, h⟩

set_option maxHeartbeats 4000000 in
theorem implCbor_6 (v : V) (hk : ∀ i (h : i < v.kids.length), ImplCborSaid v.kids[i]) (hkd : v.k = 6) : ImplCborSaid v := by
  intro A cap B b l w hr hf hw hlen hat hBw hB
  obtain ⟨d, hr⟩ := hr
  have hr3 := (V.right_eq _ _).1 hr
  obtain ⟨hw1, hw2, hw3⟩ := V.weight_kids v
  have hl : v.kids.length ≤ 1048576 := by omega
  have hss : v.s.size ≤ 1048576 := by omega
  have hf3 := (V.fits_eq v).1 hf
  have hbl := hB.lt
  have hbB := hB.base
  have HKR := Lib.hid (fun (i : Nat) (h : i < v.kids.length) => (Vs.right_iff _ _).1 hr3.2.2 i h)
  have HKF := Lib.hid (fun (i : Nat) (h : i < v.kids.length) => Vs.fits_get i h hf3.2.2.1)
  have HKW := Lib.hid (fun (i : Nat) (h : i < v.kids.length) => (show (v.kids[i]).weight ≤ 1048576 by have := Vs.weight_get i h; omega))
  have HL := Lib.hid hlen
  have hol := own_le hlen
  have HC := Lib.hid hk
  have HA := Lib.hid hat
  have HB := Lib.hid hB
  have HQ := Lib.hid (V.cbor_eq v)
  have RN := Lib.hid hf3.2.2.2.2.1
  have RE := Lib.hid hf3.2.2.2.2.2
  have q0 : (v.k == 0) = false := by rw [hkd]; rfl
  have q1 : (v.k == 1) = false := by rw [hkd]; rfl
  have q2 : (v.k == 2) = false := by rw [hkd]; rfl
  have q3 : (v.k == 3) = false := by rw [hkd]; rfl
  have q4 : (v.k == 4) = false := by rw [hkd]; rfl
  have q5 : (v.k == 5) = false := by rw [hkd]; rfl
  have q6 : (v.k == 6) = true := by rw [hkd]; rfl
  have q7 : (v.k == 7) = false := by rw [hkd]; rfl
  have q8 : (v.k == 8) = false := by rw [hkd]; rfl
  have q9 : (v.k == 9) = false := by rw [hkd]; rfl
  have HO : Hid (v.ownCbor = putHeadL 2 v.s.size ++ v.s.data.toList) := Lib.hid (by unfold V.ownCbor; simp [hkd])
  have hon : (putHeadL 2 v.s.size ++ v.s.data.toList).length ≤ 1048616 := by have h1 := V.ownCbor_len v; rw [HO.out] at h1; omega
  have hu0 : IntKind.u64.wrap (v.kids.length : Int) = (v.kids.length : Int) := by rw [IntKind.wrap_u64]; omega
  have hu1 : IntKind.u64.wrap ((v.kids.length : Int) / 2) = (v.kids.length : Int) / 2 := by rw [IntKind.wrap_u64]; omega
  clear hk hat hB hr hr3 hf hf3 hlen hkd
  have hb0 : Below w.heap.size w (w.alloc (.cells #[.int .i64 v.k, .int .i64 v.n, .int .i64 v.e, .string v.s, .slice A v.kids.length cap] 29)) := (Below.refl _ w).alloc (Nat.le_refl _) _
  obtain ⟨w0, hw0⟩ : ∃ w0, w0 = w.alloc (.cells #[.int .i64 v.k, .int .i64 v.n, .int .i64 v.e, .string v.s, .slice A v.kids.length cap] 29) := ⟨_, rfl⟩
  have B0 : Blk w0 w.heap.size 29 #[.int .i64 v.k, .int .i64 v.n, .int .i64 v.e, .string v.s, .slice A v.kids.length cap] := by rw [hw0]; exact Blk.new w _ _
  rw [← hw0] at hb0
  have k0 : OK8 b w w0 := (OK8.refl b w).below hb0
  have F0 : BF B b l w0 := HB.out.below hb0
  have hs0 := hb0.size
  have lv := B0.lt
  have HF0 := Lib.hid F0
  have HK0 := Lib.hid k0
  have HB0 := Lib.hid hb0
  have HV0 := Lib.hid B0
  obtain ⟨p0, p1, p2, p3, p4⟩ := B0.five
  clear F0 k0 hb0 B0
  unfold V.agg
  go_enter Tryd.func29, Tryd.ntmps29
  go_wp2_with fail
  rw [← hw0]
  clear hw0
  have keep0 : ∀ w' : World, Below w0.heap.size w0 w' → w'.cell? ⟨w.heap.size, 3, none⟩ = some (.string v.s) ∧ w'.cell? ⟨w.heap.size, 4, none⟩ = some (.slice A v.kids.length cap) := fun w' hb => ⟨(HV0.out.below hb lv).cell 3, (HV0.out.below hb lv).cell 4⟩
  have KE := Lib.hid keep0
  have hbr : Below w0.heap.size w0 w0 := Below.refl _ _
  have KW : Hid (∀ w1 w2 : World, Below w0.heap.size w0 w1 → OK8 b w1 w2 → w2.cell? ⟨w.heap.size, 3, none⟩ = some (.string v.s) ∧ w2.cell? ⟨w.heap.size, 4, none⟩ = some (.slice A v.kids.length cap)) := Lib.hid (fun w1 w2 h1 h2 => ⟨(h2.blk (HV0.out.below h1 lv) (by omega) vt_ne).cell 3, (h2.blk (HV0.out.below h1 lv) (by omega) vt_ne).cell 4⟩)
  have hs1 : IntKind.u64.wrap (v.s.size : Int) = (v.s.size : Int) := by rw [IntKind.wrap_u64]; omega
  clear keep0 p0 p1 p2
  have hadd : ∀ W : World, (Op.stringOp .add (str (putHeadL 2 v.s.size)) v.s).run Tryd.prog W = .ok (.string (str (putHeadL 2 v.s.size ++ v.s.data.toList))) W := fun W => by
    have h := str_sum (P := Tryd.prog) (putHeadL 2 v.s.size) v.s.data.toList (by have h1 := putHeadL_len 2 v.s.size; have h2 : v.s.data.toList.length = v.s.size := rfl; omega) W
    rwa [show str v.s.data.toList = v.s by simp [str]] at h
  go_region_held3 (fun w' => w'.cell? ⟨w.heap.size, 3, none⟩ = some (.string v.s) ∧ w'.cell? ⟨w.heap.size, 4, none⟩ = some (.slice A v.kids.length cap)) (first | exact KW.out _ _ hbx k2 | exact KE.out _ hbx | exact KE.out _ hbr.drew | exact KE.out _ hbr)
    (first
    | (have hgate := hbx; clear hgate; go_at_call 37; refine (bfWrite B b l _ w1 (HF0.out.below hbx) (by rw [size_str]; omega) (by have := hbx.size; omega)).mono ?_; rintro e w2 ⟨rfl, F2, hb2, k2⟩; rw [data_str, ← HO.out] at F2)
    | (go_at_call 47; refine (implPutHead 2 v.s.size w0.drew (by omega)).mono ?_; rintro e w1 ⟨rfl, hbx'⟩; have hbx : Below w0.heap.size w0 w1 := hbr.drew.trans hbx'))
  clear KE KW hbr hadd hs1 p3 p4
  have B2 := k2.blk (HV0.out.below hbx lv) (by omega) vt_ne
  have Kw : OK8 b w w2 := (HK0.out.below (hbx.mono (Nat.le_refl _))).trans k2
  have Bw : Below B w w2 := ((HB0.out.trans (hbx.mono hs0)).mono hBw).trans hb2
  have HF2 : Hid (BF B b (l ++ v.ownCbor) w2) := Lib.hid F2
  have HKw := Lib.hid Kw
  have HBw := Lib.hid Bw
  obtain ⟨p0, p1, p2, p3, p4⟩ := B2.five
  clear F2 Kw Bw B2 k2 hb2 hbx
  go_wp2_with fail
  go_loopw [99] (fun i wr => ∃ j : Nat, j ≤ v.kids.length ∧ i = .int .i64 j ∧ CbRel v B b l w j wr) (fun i _ => v.kids.length - (intOf i).toNat)
  case atStart => exact ⟨0, Nat.zero_le _, rfl, by simpa [Vs.cbor] using HF2.out, HBw.out, HKw.out⟩
  case round =>
    obtain ⟨j, hj, rfl, hr⟩ := hrel
    have HR := Lib.hid hr
    have hszr : B ≤ wr.heap.size := Nat.le_trans hBw hr.2.1.size
    clear hr p0 p1 p2 p3 p4
    by_cases hlt : j < v.kids.length
    · obtain ⟨bb, off, A', cap', rfl, g1, g2, g3, ⟨c0, c1, c2, c3, c4⟩, g5⟩ := Vs.at_get j hlt (Vs.at_below HA.out HR.out.2.1 (Nat.le_refl _))
      have G5 := Lib.hid g5
      have hbbl : bb < wr.heap.size := by omega
      clear g5
      go_wp2_with fail
      refine (HC.out j hlt A' cap' B b (l ++ (v.ownCbor ++ Vs.cbor (v.kids.take j))) _ ⟨_, HKR.out j hlt⟩ (HKF.out j hlt) (HKW.out j hlt) (cbrel_bound hlt HL.out) (Vs.at_alloc G5.out hszr _) (by simp; omega) (HR.out.1.alloc _)).mono ?_
      rintro e w3 ⟨rfl, F3, b3, k3⟩
      have hrel : CbRel v B b l w (j + 1) w3 := ⟨by rw [Vs.cbor_step v.kids j hlt]; simpa using F3, (HR.out.2.1.alloc hszr _).trans b3, (HR.out.2.2.alloc _).trans k3⟩
      have HREL := Lib.hid hrel
      clear F3 b3 k3 hrel c0 c1 c2 c3 c4
      go_wp2_with fail
      go_roundw
      case rel => exact ⟨j + 1, by omega, by go_num, HREL.out⟩
      case measure => simp [intOf]; omega
    · obtain rfl : j = v.kids.length := by omega
      go_wp2_with fail
      go_end0
      have h := HR.out
      unfold CbRel at h
      rw [List.take_length, ← HQ.out] at h
      exact ⟨rfl, h⟩

set_option maxHeartbeats 4000000 in
theorem implCbor_7 (v : V) (hk : ∀ i (h : i < v.kids.length), ImplCborSaid v.kids[i]) (hkd : v.k = 7) : ImplCborSaid v := by
  intro A cap B b l w hr hf hw hlen hat hBw hB
  obtain ⟨d, hr⟩ := hr
  have hr3 := (V.right_eq _ _).1 hr
  obtain ⟨hw1, hw2, hw3⟩ := V.weight_kids v
  have hl : v.kids.length ≤ 1048576 := by omega
  have hss : v.s.size ≤ 1048576 := by omega
  have hf3 := (V.fits_eq v).1 hf
  have hbl := hB.lt
  have hbB := hB.base
  have HKR := Lib.hid (fun (i : Nat) (h : i < v.kids.length) => (Vs.right_iff _ _).1 hr3.2.2 i h)
  have HKF := Lib.hid (fun (i : Nat) (h : i < v.kids.length) => Vs.fits_get i h hf3.2.2.1)
  have HKW := Lib.hid (fun (i : Nat) (h : i < v.kids.length) => (show (v.kids[i]).weight ≤ 1048576 by have := Vs.weight_get i h; omega))
  have HL := Lib.hid hlen
  have hol := own_le hlen
  have HC := Lib.hid hk
  have HA := Lib.hid hat
  have HB := Lib.hid hB
  have HQ := Lib.hid (V.cbor_eq v)
  have RN := Lib.hid hf3.2.2.2.2.1
  have RE := Lib.hid hf3.2.2.2.2.2
  have q0 : (v.k == 0) = false := by rw [hkd]; rfl
  have q1 : (v.k == 1) = false := by rw [hkd]; rfl
  have q2 : (v.k == 2) = false := by rw [hkd]; rfl
  have q3 : (v.k == 3) = false := by rw [hkd]; rfl
  have q4 : (v.k == 4) = false := by rw [hkd]; rfl
  have q5 : (v.k == 5) = false := by rw [hkd]; rfl
  have q6 : (v.k == 6) = false := by rw [hkd]; rfl
  have q7 : (v.k == 7) = true := by rw [hkd]; rfl
  have q8 : (v.k == 8) = false := by rw [hkd]; rfl
  have q9 : (v.k == 9) = false := by rw [hkd]; rfl
  have HO : Hid (v.ownCbor = putHeadL 4 v.kids.length) := Lib.hid (by unfold V.ownCbor; simp [hkd])
  have hon : (putHeadL 4 v.kids.length).length ≤ 1048616 := by have h1 := V.ownCbor_len v; rw [HO.out] at h1; omega
  have hu0 : IntKind.u64.wrap (v.kids.length : Int) = (v.kids.length : Int) := by rw [IntKind.wrap_u64]; omega
  have hu1 : IntKind.u64.wrap ((v.kids.length : Int) / 2) = (v.kids.length : Int) / 2 := by rw [IntKind.wrap_u64]; omega
  clear hk hat hB hr hr3 hf hf3 hlen hkd
  have hb0 : Below w.heap.size w (w.alloc (.cells #[.int .i64 v.k, .int .i64 v.n, .int .i64 v.e, .string v.s, .slice A v.kids.length cap] 29)) := (Below.refl _ w).alloc (Nat.le_refl _) _
  obtain ⟨w0, hw0⟩ : ∃ w0, w0 = w.alloc (.cells #[.int .i64 v.k, .int .i64 v.n, .int .i64 v.e, .string v.s, .slice A v.kids.length cap] 29) := ⟨_, rfl⟩
  have B0 : Blk w0 w.heap.size 29 #[.int .i64 v.k, .int .i64 v.n, .int .i64 v.e, .string v.s, .slice A v.kids.length cap] := by rw [hw0]; exact Blk.new w _ _
  rw [← hw0] at hb0
  have k0 : OK8 b w w0 := (OK8.refl b w).below hb0
  have F0 : BF B b l w0 := HB.out.below hb0
  have hs0 := hb0.size
  have lv := B0.lt
  have HF0 := Lib.hid F0
  have HK0 := Lib.hid k0
  have HB0 := Lib.hid hb0
  have HV0 := Lib.hid B0
  obtain ⟨p0, p1, p2, p3, p4⟩ := B0.five
  clear F0 k0 hb0 B0
  unfold V.agg
  go_enter Tryd.func29, Tryd.ntmps29
  go_wp2_with fail
  rw [← hw0]
  clear hw0
  have HP := implPutHead 4 v.kids.length w0 (by omega)
  refine HP.mono ?_
  rintro e w1 ⟨rfl, hbx⟩
  clear HP
  go_wp2_with fail
  have hBx : B ≤ w1.heap.size := by have := hbx.size; omega
  have hsl : l.length + (str (putHeadL 4 v.kids.length)).size ≤ 140737488355328 := by rw [size_str]; have := congrArg List.length HO.out; omega
  refine (bfWrite B b l _ w1 (HF0.out.below hbx) hsl hBx).mono ?_
  rintro e w2 ⟨rfl, F2, hb2, k2⟩
  rw [data_str, ← HO.out] at F2
  clear hsl p0 p1 p2 p3 p4
  have B2 := k2.blk (HV0.out.below hbx lv) (by omega) vt_ne
  have Kw : OK8 b w w2 := (HK0.out.below (hbx.mono (Nat.le_refl _))).trans k2
  have Bw : Below B w w2 := ((HB0.out.trans (hbx.mono hs0)).mono hBw).trans hb2
  have HF2 : Hid (BF B b (l ++ v.ownCbor) w2) := Lib.hid F2
  have HKw := Lib.hid Kw
  have HBw := Lib.hid Bw
  obtain ⟨p0, p1, p2, p3, p4⟩ := B2.five
  clear F2 Kw Bw B2 k2 hb2 hbx
  go_wp2_with fail
  go_loopw [99] (fun i wr => ∃ j : Nat, j ≤ v.kids.length ∧ i = .int .i64 j ∧ CbRel v B b l w j wr) (fun i _ => v.kids.length - (intOf i).toNat)
  case atStart => exact ⟨0, Nat.zero_le _, rfl, by simpa [Vs.cbor] using HF2.out, HBw.out, HKw.out⟩
  case round =>
    obtain ⟨j, hj, rfl, hr⟩ := hrel
    have HR := Lib.hid hr
    have hszr : B ≤ wr.heap.size := Nat.le_trans hBw hr.2.1.size
    clear hr p0 p1 p2 p3 p4
    by_cases hlt : j < v.kids.length
    · obtain ⟨bb, off, A', cap', rfl, g1, g2, g3, ⟨c0, c1, c2, c3, c4⟩, g5⟩ := Vs.at_get j hlt (Vs.at_below HA.out HR.out.2.1 (Nat.le_refl _))
      have G5 := Lib.hid g5
      have hbbl : bb < wr.heap.size := by omega
      clear g5
      go_wp2_with fail
      refine (HC.out j hlt A' cap' B b (l ++ (v.ownCbor ++ Vs.cbor (v.kids.take j))) _ ⟨_, HKR.out j hlt⟩ (HKF.out j hlt) (HKW.out j hlt) (cbrel_bound hlt HL.out) (Vs.at_alloc G5.out hszr _) (by simp; omega) (HR.out.1.alloc _)).mono ?_
      rintro e w3 ⟨rfl, F3, b3, k3⟩
      have hrel : CbRel v B b l w (j + 1) w3 := ⟨by rw [Vs.cbor_step v.kids j hlt]; simpa using F3, (HR.out.2.1.alloc hszr _).trans b3, (HR.out.2.2.alloc _).trans k3⟩
      have HREL := Lib.hid hrel
      clear F3 b3 k3 hrel c0 c1 c2 c3 c4
      go_wp2_with fail
      go_roundw
      case rel => exact ⟨j + 1, by omega, by go_num, HREL.out⟩
      case measure => simp [intOf]; omega
    · obtain rfl : j = v.kids.length := by omega
      go_wp2_with fail
      go_end0
      have h := HR.out
      unfold CbRel at h
      rw [List.take_length, ← HQ.out] at h
      exact ⟨rfl, h⟩

set_option maxHeartbeats 4000000 in
theorem implCbor_8 (v : V) (hk : ∀ i (h : i < v.kids.length), ImplCborSaid v.kids[i]) (hkd : v.k = 8) : ImplCborSaid v := by
  intro A cap B b l w hr hf hw hlen hat hBw hB
  obtain ⟨d, hr⟩ := hr
  have hr3 := (V.right_eq _ _).1 hr
  obtain ⟨hw1, hw2, hw3⟩ := V.weight_kids v
  have hl : v.kids.length ≤ 1048576 := by omega
  have hss : v.s.size ≤ 1048576 := by omega
  have hf3 := (V.fits_eq v).1 hf
  have hbl := hB.lt
  have hbB := hB.base
  have HKR := Lib.hid (fun (i : Nat) (h : i < v.kids.length) => (Vs.right_iff _ _).1 hr3.2.2 i h)
  have HKF := Lib.hid (fun (i : Nat) (h : i < v.kids.length) => Vs.fits_get i h hf3.2.2.1)
  have HKW := Lib.hid (fun (i : Nat) (h : i < v.kids.length) => (show (v.kids[i]).weight ≤ 1048576 by have := Vs.weight_get i h; omega))
  have HL := Lib.hid hlen
  have hol := own_le hlen
  have HC := Lib.hid hk
  have HA := Lib.hid hat
  have HB := Lib.hid hB
  have HQ := Lib.hid (V.cbor_eq v)
  have RN := Lib.hid hf3.2.2.2.2.1
  have RE := Lib.hid hf3.2.2.2.2.2
  have q0 : (v.k == 0) = false := by rw [hkd]; rfl
  have q1 : (v.k == 1) = false := by rw [hkd]; rfl
  have q2 : (v.k == 2) = false := by rw [hkd]; rfl
  have q3 : (v.k == 3) = false := by rw [hkd]; rfl
  have q4 : (v.k == 4) = false := by rw [hkd]; rfl
  have q5 : (v.k == 5) = false := by rw [hkd]; rfl
  have q6 : (v.k == 6) = false := by rw [hkd]; rfl
  have q7 : (v.k == 7) = false := by rw [hkd]; rfl
  have q8 : (v.k == 8) = true := by rw [hkd]; rfl
  have q9 : (v.k == 9) = false := by rw [hkd]; rfl
  have HO : Hid (v.ownCbor = putHeadL 5 (v.kids.length / 2)) := Lib.hid (by unfold V.ownCbor; simp [hkd])
  have hon : (putHeadL 5 (v.kids.length / 2)).length ≤ 1048616 := by have h1 := V.ownCbor_len v; rw [HO.out] at h1; omega
  have hu0 : IntKind.u64.wrap (v.kids.length : Int) = (v.kids.length : Int) := by rw [IntKind.wrap_u64]; omega
  have hu1 : IntKind.u64.wrap ((v.kids.length : Int) / 2) = (v.kids.length : Int) / 2 := by rw [IntKind.wrap_u64]; omega
  clear hk hat hB hr hr3 hf hf3 hlen hkd
  have hb0 : Below w.heap.size w (w.alloc (.cells #[.int .i64 v.k, .int .i64 v.n, .int .i64 v.e, .string v.s, .slice A v.kids.length cap] 29)) := (Below.refl _ w).alloc (Nat.le_refl _) _
  obtain ⟨w0, hw0⟩ : ∃ w0, w0 = w.alloc (.cells #[.int .i64 v.k, .int .i64 v.n, .int .i64 v.e, .string v.s, .slice A v.kids.length cap] 29) := ⟨_, rfl⟩
  have B0 : Blk w0 w.heap.size 29 #[.int .i64 v.k, .int .i64 v.n, .int .i64 v.e, .string v.s, .slice A v.kids.length cap] := by rw [hw0]; exact Blk.new w _ _
  rw [← hw0] at hb0
  have k0 : OK8 b w w0 := (OK8.refl b w).below hb0
  have F0 : BF B b l w0 := HB.out.below hb0
  have hs0 := hb0.size
  have lv := B0.lt
  have HF0 := Lib.hid F0
  have HK0 := Lib.hid k0
  have HB0 := Lib.hid hb0
  have HV0 := Lib.hid B0
  obtain ⟨p0, p1, p2, p3, p4⟩ := B0.five
  clear F0 k0 hb0 B0
  unfold V.agg
  go_enter Tryd.func29, Tryd.ntmps29
  go_wp2_with fail
  rw [← hw0]
  clear hw0
  have HP := implPutHead 5 (v.kids.length / 2) w0 (by omega)
  rw [show ((v.kids.length / 2 : Nat) : Int) = (v.kids.length : Int) / 2 by omega] at HP
  refine HP.mono ?_
  rintro e w1 ⟨rfl, hbx⟩
  clear HP
  go_wp2_with fail
  have hBx : B ≤ w1.heap.size := by have := hbx.size; omega
  have hsl : l.length + (str (putHeadL 5 (v.kids.length / 2))).size ≤ 140737488355328 := by rw [size_str]; have := congrArg List.length HO.out; omega
  refine (bfWrite B b l _ w1 (HF0.out.below hbx) hsl hBx).mono ?_
  rintro e w2 ⟨rfl, F2, hb2, k2⟩
  rw [data_str, ← HO.out] at F2
  clear hsl p0 p1 p2 p3 p4
  have B2 := k2.blk (HV0.out.below hbx lv) (by omega) vt_ne
  have Kw : OK8 b w w2 := (HK0.out.below (hbx.mono (Nat.le_refl _))).trans k2
  have Bw : Below B w w2 := ((HB0.out.trans (hbx.mono hs0)).mono hBw).trans hb2
  have HF2 : Hid (BF B b (l ++ v.ownCbor) w2) := Lib.hid F2
  have HKw := Lib.hid Kw
  have HBw := Lib.hid Bw
  obtain ⟨p0, p1, p2, p3, p4⟩ := B2.five
  clear F2 Kw Bw B2 k2 hb2 hbx
  go_wp2_with fail
  go_loopw [99] (fun i wr => ∃ j : Nat, j ≤ v.kids.length ∧ i = .int .i64 j ∧ CbRel v B b l w j wr) (fun i _ => v.kids.length - (intOf i).toNat)
  case atStart => exact ⟨0, Nat.zero_le _, rfl, by simpa [Vs.cbor] using HF2.out, HBw.out, HKw.out⟩
  case round =>
    obtain ⟨j, hj, rfl, hr⟩ := hrel
    have HR := Lib.hid hr
    have hszr : B ≤ wr.heap.size := Nat.le_trans hBw hr.2.1.size
    clear hr p0 p1 p2 p3 p4
    by_cases hlt : j < v.kids.length
    · obtain ⟨bb, off, A', cap', rfl, g1, g2, g3, ⟨c0, c1, c2, c3, c4⟩, g5⟩ := Vs.at_get j hlt (Vs.at_below HA.out HR.out.2.1 (Nat.le_refl _))
      have G5 := Lib.hid g5
      have hbbl : bb < wr.heap.size := by omega
      clear g5
      go_wp2_with fail
      refine (HC.out j hlt A' cap' B b (l ++ (v.ownCbor ++ Vs.cbor (v.kids.take j))) _ ⟨_, HKR.out j hlt⟩ (HKF.out j hlt) (HKW.out j hlt) (cbrel_bound hlt HL.out) (Vs.at_alloc G5.out hszr _) (by simp; omega) (HR.out.1.alloc _)).mono ?_
      rintro e w3 ⟨rfl, F3, b3, k3⟩
      have hrel : CbRel v B b l w (j + 1) w3 := ⟨by rw [Vs.cbor_step v.kids j hlt]; simpa using F3, (HR.out.2.1.alloc hszr _).trans b3, (HR.out.2.2.alloc _).trans k3⟩
      have HREL := Lib.hid hrel
      clear F3 b3 k3 hrel c0 c1 c2 c3 c4
      go_wp2_with fail
      go_roundw
      case rel => exact ⟨j + 1, by omega, by go_num, HREL.out⟩
      case measure => simp [intOf]; omega
    · obtain rfl : j = v.kids.length := by omega
      go_wp2_with fail
      go_end0
      have h := HR.out
      unfold CbRel at h
      rw [List.take_length, ← HQ.out] at h
      exact ⟨rfl, h⟩

set_option maxHeartbeats 4000000 in
theorem implCbor_9 (v : V) (hk : ∀ i (h : i < v.kids.length), ImplCborSaid v.kids[i]) (hkd : v.k = 9) : ImplCborSaid v := by
  intro A cap B b l w hr hf hw hlen hat hBw hB
  obtain ⟨d, hr⟩ := hr
  have hr3 := (V.right_eq _ _).1 hr
  obtain ⟨hw1, hw2, hw3⟩ := V.weight_kids v
  have hl : v.kids.length ≤ 1048576 := by omega
  have hss : v.s.size ≤ 1048576 := by omega
  have hf3 := (V.fits_eq v).1 hf
  have hbl := hB.lt
  have hbB := hB.base
  have HKR := Lib.hid (fun (i : Nat) (h : i < v.kids.length) => (Vs.right_iff _ _).1 hr3.2.2 i h)
  have HKF := Lib.hid (fun (i : Nat) (h : i < v.kids.length) => Vs.fits_get i h hf3.2.2.1)
  have HKW := Lib.hid (fun (i : Nat) (h : i < v.kids.length) => (show (v.kids[i]).weight ≤ 1048576 by have := Vs.weight_get i h; omega))
  have HL := Lib.hid hlen
  have hol := own_le hlen
  have HC := Lib.hid hk
  have HA := Lib.hid hat
  have HB := Lib.hid hB
  have HQ := Lib.hid (V.cbor_eq v)
  have RN := Lib.hid hf3.2.2.2.2.1
  have RE := Lib.hid hf3.2.2.2.2.2
  have q0 : (v.k == 0) = false := by rw [hkd]; rfl
  have q1 : (v.k == 1) = false := by rw [hkd]; rfl
  have q2 : (v.k == 2) = false := by rw [hkd]; rfl
  have q3 : (v.k == 3) = false := by rw [hkd]; rfl
  have q4 : (v.k == 4) = false := by rw [hkd]; rfl
  have q5 : (v.k == 5) = false := by rw [hkd]; rfl
  have q6 : (v.k == 6) = false := by rw [hkd]; rfl
  have q7 : (v.k == 7) = false := by rw [hkd]; rfl
  have q8 : (v.k == 8) = false := by rw [hkd]; rfl
  have q9 : (v.k == 9) = true := by rw [hkd]; rfl
  have HO : Hid (v.ownCbor = putHeadL 6 v.n.toNat) := Lib.hid (by unfold V.ownCbor; simp [hkd])
  have hon : (putHeadL 6 v.n.toNat).length ≤ 1048616 := by have h1 := V.ownCbor_len v; rw [HO.out] at h1; omega
  have hno : 0 ≤ v.n ∧ v.n ≤ 1000000 := by
    have h1 := hr3.2.1.1
    unfold nodeOk at h1
    simp [hkd] at h1
    exact ⟨h1.1, h1.2.1⟩
  have hu0 : IntKind.u64.wrap (v.kids.length : Int) = (v.kids.length : Int) := by rw [IntKind.wrap_u64]; omega
  have hu1 : IntKind.u64.wrap ((v.kids.length : Int) / 2) = (v.kids.length : Int) / 2 := by rw [IntKind.wrap_u64]; omega
  have hu2 : IntKind.u64.wrap v.n = v.n := by rw [IntKind.wrap_u64]; omega
  clear hk hat hB hr hr3 hf hf3 hlen hkd
  have hb0 : Below w.heap.size w (w.alloc (.cells #[.int .i64 v.k, .int .i64 v.n, .int .i64 v.e, .string v.s, .slice A v.kids.length cap] 29)) := (Below.refl _ w).alloc (Nat.le_refl _) _
  obtain ⟨w0, hw0⟩ : ∃ w0, w0 = w.alloc (.cells #[.int .i64 v.k, .int .i64 v.n, .int .i64 v.e, .string v.s, .slice A v.kids.length cap] 29) := ⟨_, rfl⟩
  have B0 : Blk w0 w.heap.size 29 #[.int .i64 v.k, .int .i64 v.n, .int .i64 v.e, .string v.s, .slice A v.kids.length cap] := by rw [hw0]; exact Blk.new w _ _
  rw [← hw0] at hb0
  have k0 : OK8 b w w0 := (OK8.refl b w).below hb0
  have F0 : BF B b l w0 := HB.out.below hb0
  have hs0 := hb0.size
  have lv := B0.lt
  have HF0 := Lib.hid F0
  have HK0 := Lib.hid k0
  have HB0 := Lib.hid hb0
  have HV0 := Lib.hid B0
  obtain ⟨p0, p1, p2, p3, p4⟩ := B0.five
  clear F0 k0 hb0 B0
  unfold V.agg
  go_enter Tryd.func29, Tryd.ntmps29
  go_wp2_with fail
  rw [← hw0]
  clear hw0
  have HP := implPutHead 6 v.n.toNat w0 (by omega)
  rw [show ((v.n.toNat : Nat) : Int) = v.n by omega] at HP
  refine HP.mono ?_
  rintro e w1 ⟨rfl, hbx⟩
  clear HP
  go_wp2_with fail
  have hBx : B ≤ w1.heap.size := by have := hbx.size; omega
  have hsl : l.length + (str (putHeadL 6 v.n.toNat)).size ≤ 140737488355328 := by rw [size_str]; have := congrArg List.length HO.out; omega
  refine (bfWrite B b l _ w1 (HF0.out.below hbx) hsl hBx).mono ?_
  rintro e w2 ⟨rfl, F2, hb2, k2⟩
  rw [data_str, ← HO.out] at F2
  clear hsl p0 p1 p2 p3 p4
  have B2 := k2.blk (HV0.out.below hbx lv) (by omega) vt_ne
  have Kw : OK8 b w w2 := (HK0.out.below (hbx.mono (Nat.le_refl _))).trans k2
  have Bw : Below B w w2 := ((HB0.out.trans (hbx.mono hs0)).mono hBw).trans hb2
  have HF2 : Hid (BF B b (l ++ v.ownCbor) w2) := Lib.hid F2
  have HKw := Lib.hid Kw
  have HBw := Lib.hid Bw
  obtain ⟨p0, p1, p2, p3, p4⟩ := B2.five
  clear F2 Kw Bw B2 k2 hb2 hbx
  go_wp2_with fail
  go_loopw [99] (fun i wr => ∃ j : Nat, j ≤ v.kids.length ∧ i = .int .i64 j ∧ CbRel v B b l w j wr) (fun i _ => v.kids.length - (intOf i).toNat)
  case atStart => exact ⟨0, Nat.zero_le _, rfl, by simpa [Vs.cbor] using HF2.out, HBw.out, HKw.out⟩
  case round =>
    obtain ⟨j, hj, rfl, hr⟩ := hrel
    have HR := Lib.hid hr
    have hszr : B ≤ wr.heap.size := Nat.le_trans hBw hr.2.1.size
    clear hr p0 p1 p2 p3 p4
    by_cases hlt : j < v.kids.length
    · obtain ⟨bb, off, A', cap', rfl, g1, g2, g3, ⟨c0, c1, c2, c3, c4⟩, g5⟩ := Vs.at_get j hlt (Vs.at_below HA.out HR.out.2.1 (Nat.le_refl _))
      have G5 := Lib.hid g5
      have hbbl : bb < wr.heap.size := by omega
      clear g5
      go_wp2_with fail
      refine (HC.out j hlt A' cap' B b (l ++ (v.ownCbor ++ Vs.cbor (v.kids.take j))) _ ⟨_, HKR.out j hlt⟩ (HKF.out j hlt) (HKW.out j hlt) (cbrel_bound hlt HL.out) (Vs.at_alloc G5.out hszr _) (by simp; omega) (HR.out.1.alloc _)).mono ?_
      rintro e w3 ⟨rfl, F3, b3, k3⟩
      have hrel : CbRel v B b l w (j + 1) w3 := ⟨by rw [Vs.cbor_step v.kids j hlt]; simpa using F3, (HR.out.2.1.alloc hszr _).trans b3, (HR.out.2.2.alloc _).trans k3⟩
      have HREL := Lib.hid hrel
      clear F3 b3 k3 hrel c0 c1 c2 c3 c4
      go_wp2_with fail
      go_roundw
      case rel => exact ⟨j + 1, by omega, by go_num, HREL.out⟩
      case measure => simp [intOf]; omega
    · obtain rfl : j = v.kids.length := by omega
      go_wp2_with fail
      go_end0
      have h := HR.out
      unfold CbRel at h
      rw [List.take_length, ← HQ.out] at h
      exact ⟨rfl, h⟩

theorem right_kinds {d : Int} {v : V} (h : V.right d v) : v.k = 0 ∨ v.k = 1 ∨ v.k = 2 ∨ v.k = 3 ∨ v.k = 4 ∨ v.k = 5 ∨ v.k = 6 ∨ v.k = 7 ∨ v.k = 8 ∨ v.k = 9 := by
  by_cases h1 : v.k < 0 ∨ 9 < v.k
  · exact absurd ((V.right_eq _ _).1 h).2.1.1 (by
      unfold nodeOk
      rw [if_neg (by omega), if_neg (by omega), if_neg (by omega), if_neg (by omega), if_neg (by omega), if_neg (by omega)]
      exact fun h => h)
  · omega
theorem implCbor_step (v : V) (hk : ∀ i (h : i < v.kids.length), ImplCborSaid v.kids[i]) : ImplCborSaid v := by
  intro A cap B b l w hr
  obtain ⟨d, hd⟩ := hr
  rcases right_kinds hd with h | h | h | h | h | h | h | h | h | h
  · exact implCbor_0 v hk h A cap B b l w ⟨d, hd⟩
  · exact implCbor_1 v hk h A cap B b l w ⟨d, hd⟩
  · exact implCbor_2 v hk h A cap B b l w ⟨d, hd⟩
  · exact implCbor_3 v hk h A cap B b l w ⟨d, hd⟩
  · exact implCbor_4 v hk h A cap B b l w ⟨d, hd⟩
  · exact implCbor_5 v hk h A cap B b l w ⟨d, hd⟩
  · exact implCbor_6 v hk h A cap B b l w ⟨d, hd⟩
  · exact implCbor_7 v hk h A cap B b l w ⟨d, hd⟩
  · exact implCbor_8 v hk h A cap B b l w ⟨d, hd⟩
  · exact implCbor_9 v hk h A cap B b l w ⟨d, hd⟩
theorem implCbor : ∀ v, ImplCborSaid v := V.all implCbor_step
end Go.Proofs.YtkajfinfphmlaaaDoor

/-
  The program's walk over a value, node by node, with whatever function is handed to it.
-/
namespace Go.Proofs.YtkajfinfphmlaaaDoor
open Go.RowKit
set_option linter.unusedVariables false
set_option linter.unusedSimpArgs false

mutual
/-- The values in a value, itself first. -/
def V.pre : V → List V
  | .mk k n e s ks => .mk k n e s ks :: Vs.pre ks
def Vs.pre : List V → List V
  | [] => []
  | v :: r => v.pre ++ Vs.pre r
end
theorem V.pre_eq (v : V) : v.pre = v :: Vs.pre v.kids := by cases v; simp [V.pre, V.kids]
theorem Vs.pre_snoc (l : List V) (v : V) : Vs.pre (l ++ [v]) = Vs.pre l ++ v.pre := by
  induction l with
  | nil => simp [Vs.pre]
  | cons a l ih => simp only [List.cons_append, Vs.pre, ih, List.append_assoc]
theorem Vs.pre_step (l : List V) (i : Nat) (h : i < l.length) : Vs.pre (l.take (i + 1)) = Vs.pre (l.take i) ++ (l[i]).pre := by
  rw [List.take_succ_eq_append_getElem h, Vs.pre_snoc]

mutual
theorem V.pre_len : ∀ v : V, v.pre.length = v.nodes
  | .mk _ _ _ _ ks => by simp only [V.pre, V.nodes, List.length_cons]; rw [Vs.pre_len ks]
theorem Vs.pre_len : ∀ l : List V, (Vs.pre l).length = Vs.nodes l
  | [] => by simp [Vs.pre, Vs.nodes]
  | v :: r => by simp only [Vs.pre, Vs.nodes, List.length_append]; rw [V.pre_len v, Vs.pre_len r]
end
theorem take_pre_len (l : List V) (j : Nat) (h : j < l.length) : (Vs.pre (l.take j)).length + (l[j]).nodes ≤ Vs.nodes l := by
  rw [Vs.pre_len]
  have h1 : ∀ (a : List V) (i : Nat), Vs.nodes (a.take i) + Vs.nodes (a.drop i) = Vs.nodes a := by
    intro a
    induction a with
    | nil => intro i; simp [Vs.nodes]
    | cons x a ih =>
      intro i
      cases i with
      | zero => simp [Vs.nodes]
      | succ i => simp only [List.take_succ_cons, List.drop_succ_cons, Vs.nodes]; have := ih i; omega
  have h2 := h1 l j
  rw [List.drop_eq_getElem_cons h] at h2
  simp only [Vs.nodes] at h2
  omega
/-- What is asked of the function that is called for each node. -/
structure Yields (F : FuncId) (caps : Array Value) (Inv : List V → World → Prop) (D : World → Nat → Prop) (N : Nat) : Prop where
  step : ∀ xs x A c w hi, Inv xs w → Vs.at_ w 0 hi x.kids A → hi ≤ w.heap.size → (∀ k, k < hi → ¬ D w k) → x.nodes ≤ 1048577 → xs.length + 1 ≤ N →
    Calls Tryd.prog F (#[x.agg A c] ++ caps) w fun e w' => e = .returned (.tuple #[]) ∧ Inv (xs ++ [x]) w' ∧ Keep D w w'
  enters : ∀ (args : Array Value) (w : World), (callFunc F args).run Tryd.prog w = .ok (.enter F args) w
  alloc : ∀ xs w o, Inv xs w → Inv xs (w.alloc o) ∧ ∀ k, D (w.alloc o) k → D w k ∧ k < w.heap.size

def WalkSaid (F : FuncId) (caps : Array Value) (Inv : List V → World → Prop) (D : World → Nat → Prop) (N : Nat) (v : V) : Prop :=
  ∀ (A : Option Addr) (c : Nat) (xs : List V) (w : World) (hi : Nat), Inv xs w → Vs.at_ w 0 hi v.kids A → hi ≤ w.heap.size → (∀ k, k < hi → ¬ D w k) → v.nodes ≤ 1048577 → xs.length + v.nodes ≤ N →
    Calls Tryd.prog 44 #[v.agg A c, .func (Fn.func F) #[] caps] w fun e w' => e = .returned (.tuple #[]) ∧ Inv (xs ++ v.pre) w' ∧ Keep D w w'

theorem Yields.kept {F : FuncId} {caps : Array Value} {Inv : List V → World → Prop} {D : World → Nat → Prop} {N : Nat} (Y : Yields F caps Inv D N) {xs : List V} {w : World} (h : Inv xs w) (o : Obj) : Keep D w (w.alloc o) :=
  ⟨rfl, rfl, rfl, by simp, fun k hk hd => ⟨Below.heap_alloc w o k hk, fun h' => hd ((Y.alloc xs w o h).2 k h').1⟩⟩
/-- What holds behind j kids. -/
def WRel (Inv : List V → World → Prop) (D : World → Nat → Prop) (xs : List V) (v : V) (w : World) (hi j : Nat) (wr : World) : Prop :=
  Inv (xs ++ v :: Vs.pre (v.kids.take j)) wr ∧ Keep D w wr ∧ ∀ k, k < hi → ¬ D wr k
theorem wrel_next {Inv : List V → World → Prop} {xs : List V} {v : V} {w : World} {j : Nat} (hlt : j < v.kids.length) (h : Inv (xs ++ v :: Vs.pre (v.kids.take j) ++ (v.kids[j]).pre) w) : Inv (xs ++ v :: Vs.pre (v.kids.take (j + 1))) w := by
  rw [Vs.pre_step _ j hlt]
  simpa using h

set_option maxHeartbeats 2000000 in
theorem walk_step {F : FuncId} {caps : Array Value} {Inv : List V → World → Prop} {D : World → Nat → Prop} {N : Nat} (Y : Yields F caps Inv D N) (v : V) (hk : ∀ i (h : i < v.kids.length), WalkSaid F caps Inv D N v.kids[i]) : WalkSaid F caps Inv D N v := by
  intro A c xs w hi hinv hat hhi hD hn hN
  have HP := Lib.hid (V.pre_eq v)
  have HN := Lib.hid (V.nodes_eq v)
  have hl : v.kids.length ≤ 1048576 := by have := Vs.len_nodes v.kids; have := HN.out; omega
  have hN1 : xs.length + 1 ≤ N := by have := HN.out; omega
  have HC := Lib.hid hk
  have HY := Lib.hid Y
  have HI := Lib.hid hinv
  have HA := Lib.hid hat
  have HD := Lib.hid hD
  have hE := Y.enters
  clear hk Y hinv hat hD
  unfold V.agg
  go_enter Tryd.func44, Tryd.ntmps44
  go_wp2_with fail
  have BX := Blk.new w 29 #[.int .i64 v.k, .int .i64 v.n, .int .i64 v.e, .string v.s, .slice A v.kids.length c]
  obtain ⟨HI1, HD1⟩ := HY.out.alloc xs w (.cells #[.int .i64 v.k, .int .i64 v.n, .int .i64 v.e, .string v.s, .slice A v.kids.length c] 29) HI.out
  have K1 := HY.out.kept HI.out (.cells #[.int .i64 v.k, .int .i64 v.n, .int .i64 v.e, .string v.s, .slice A v.kids.length c] 29)
  have hd1 : ∀ k, k < hi → ¬ D (w.alloc (.cells #[.int .i64 v.k, .int .i64 v.n, .int .i64 v.e, .string v.s, .slice A v.kids.length c] 29)) k := fun k hk h => HD.out k hk (HD1 k h).1
  have hdx : ¬ D (w.alloc (.cells #[.int .i64 v.k, .int .i64 v.n, .int .i64 v.e, .string v.s, .slice A v.kids.length c] 29)) w.heap.size := fun h => absurd (HD1 _ h).2 (Nat.lt_irrefl _)
  have HD2 := Lib.hid hd1
  have HDX := Lib.hid hdx
  clear hd1 hdx HD1
  refine (HY.out.step xs v A c _ hi HI1 (Vs.at_alloc HA.out hhi _) (by simp; omega) HD2.out hn hN1).mono ?_
  rintro e w1 ⟨rfl, hi1, k1⟩
  obtain ⟨BX1, hdx1⟩ := k1.blk BX HDX.out
  have at1 := k1.at_ (Vs.at_alloc HA.out hhi _) (by simp; omega) HD2.out
  have K2 := K1.trans k1
  have hD2 : ∀ k, k < hi → ¬ D w1 k := fun k hk => (k1.block k (by simp; omega) (HD2.out k hk)).2
  have hhi1 : hi ≤ w1.heap.size := Nat.le_trans hhi K2.size
  have b4 : w1.cell? ⟨w.heap.size, 4, none⟩ = some (.slice A v.kids.length c) := BX1.cell 4
  have HB := Lib.hid BX1
  have HX := Lib.hid hdx1
  have HI2 := Lib.hid hi1
  have HA1 := Lib.hid at1
  have HK2 := Lib.hid K2
  have HDD := Lib.hid hD2
  clear BX1 hdx1 hi1 at1 K2 hD2 k1 K1 HI1 BX
  go_wp2_with fail
  go_loopw [12] (fun i wr => ∃ j : Nat, j ≤ v.kids.length ∧ i = .int .i64 j ∧ WRel Inv D xs v w hi j wr) (fun i _ => v.kids.length - (intOf i).toNat)
  case atStart => exact ⟨0, Nat.zero_le _, rfl, by simpa [Vs.pre] using HI2.out, HK2.out, HDD.out⟩
  case round =>
    obtain ⟨j, hj, rfl, r1, r2, r3⟩ := hrel
    by_cases hlt : j < v.kids.length
    · have hhr : hi ≤ wr.heap.size := Nat.le_trans hhi r2.size
      obtain ⟨b, off, A', cap', rfl, g1, g2, g3, ⟨c0, c1, c2, c3, c4⟩, g5⟩ := Vs.at_get j hlt (r2.at_ HA.out hhi HD.out)
      have R1 := Lib.hid r1
      have R2 := Lib.hid r2
      have R3 := Lib.hid r3
      clear r1 r2 r3 b4
      go_wp2_with fail
      have e2 := HY.out.alloc _ wr (.cells #[.int .i64 (v.kids[j]).k, .int .i64 (v.kids[j]).n, .int .i64 (v.kids[j]).e, .string (v.kids[j]).s, .slice A' (v.kids[j]).kids.length cap'] 29) R1.out
      have k2 := HY.out.kept R1.out (.cells #[.int .i64 (v.kids[j]).k, .int .i64 (v.kids[j]).n, .int .i64 (v.kids[j]).e, .string (v.kids[j]).s, .slice A' (v.kids[j]).kids.length cap'] 29)
      have hd2 : ∀ k, k < hi → ¬ D (wr.alloc (.cells #[.int .i64 (v.kids[j]).k, .int .i64 (v.kids[j]).n, .int .i64 (v.kids[j]).e, .string (v.kids[j]).s, .slice A' (v.kids[j]).kids.length cap'] 29)) k := fun k hk h => R3.out k hk (e2.2 k h).1
      refine (HC.out j hlt A' cap' _ _ hi e2.1 (Vs.at_alloc g5 hhr _) (by simp; omega) hd2 (by have := Vs.nodes_get j hlt; have := HN.out; omega) (by have := take_pre_len v.kids j hlt; have := HN.out; simp; omega)).mono ?_
      rintro e w3 ⟨rfl, hi3, k3⟩
      have K3 := (R2.out.trans k2).trans k3
      have hd3 : ∀ k, k < hi → ¬ D w3 k := fun k hk => (k3.block k (by simp; omega) (hd2 k hk)).2
      have HK3 := Lib.hid K3
      have HD3 := Lib.hid hd3
      have HI3 := Lib.hid hi3
      clear c0 c1 c2 c3 c4 K3 hd3 hi3 k3 hd2 k2 e2
      go_wp2_with fail
      go_roundw
      case rel => exact ⟨j + 1, by omega, by go_num, wrel_next hlt HI3.out, HK3.out, HD3.out⟩
      case measure => simp [intOf]; omega
    · obtain rfl : j = v.kids.length := by omega
      have R1 := Lib.hid r1
      have R2 := Lib.hid r2
      clear r1 r2 r3 b4
      go_wp2_with fail
      go_end0
      refine ⟨rfl, ?_, R2.out⟩
      have h := R1.out
      rw [List.take_length] at h
      rw [HP.out]
      exact h
theorem walk_any {F : FuncId} {caps : Array Value} {Inv : List V → World → Prop} {D : World → Nat → Prop} {N : Nat} (Y : Yields F caps Inv D N) : ∀ v, WalkSaid F caps Inv D N v := V.all (walk_step Y)
end Go.Proofs.YtkajfinfphmlaaaDoor

/-
  A tag of a number in a value, plainly; what has a CBOR form.
-/
namespace Go.Proofs.YtkajfinfphmlaaaDoor
open Go.RowKit
set_option linter.unusedVariables false

def tagIn (n : Int) (l : List V) : Prop := ∃ x ∈ l, x.k = 9 ∧ x.n = n
theorem tagIn_nil (n : Int) : ¬ tagIn n [] := fun ⟨x, h, _⟩ => by cases h
theorem tagIn_append (n : Int) (a b : List V) : tagIn n (a ++ b) ↔ tagIn n a ∨ tagIn n b := by
  unfold tagIn
  simp only [List.mem_append]
  constructor
  · rintro ⟨x, h | h, hx⟩
    · exact .inl ⟨x, h, hx⟩
    · exact .inr ⟨x, h, hx⟩
  · rintro (⟨x, h, hx⟩ | ⟨x, h, hx⟩)
    · exact ⟨x, .inl h, hx⟩
    · exact ⟨x, .inr h, hx⟩
theorem tagIn_cons (n : Int) (v : V) (l : List V) : tagIn n (v :: l) ↔ (v.k = 9 ∧ v.n = n) ∨ tagIn n l := by
  unfold tagIn
  simp only [List.mem_cons]
  constructor
  · rintro ⟨x, rfl | h, hx⟩
    · exact .inl hx
    · exact .inr ⟨x, h, hx⟩
  · rintro (hx | ⟨x, h, hx⟩)
    · exact ⟨v, .inl rfl, hx⟩
    · exact ⟨x, .inr h, hx⟩
theorem tagIn_pre (n : Int) (v : V) : tagIn n v.pre ↔ (v.k = 9 ∧ v.n = n) ∨ tagIn n (Vs.pre v.kids) := by rw [V.pre_eq, tagIn_cons]
theorem tagIn_step (n : Int) (l : List V) (i : Nat) (h : i < l.length) : tagIn n (Vs.pre (l.take (i + 1))) ↔ tagIn n (Vs.pre (l.take i)) ∨ tagIn n (l[i]).pre := by
  rw [Vs.pre_step l i h, tagIn_append]
theorem tagIn_get (n : Int) (l : List V) (i : Nat) (h : i < l.length) (ht : tagIn n (l[i]).pre) : tagIn n (Vs.pre l) := by
  have h1 : ∀ (l : List V) (i : Nat) (h : i < l.length), tagIn n (l[i]).pre → tagIn n (Vs.pre l) := by
    intro l
    induction l with
    | nil => intro i h; simp at h
    | cons a l ih =>
      intro i h hx
      simp only [Vs.pre]
      rw [tagIn_append]
      cases i with
      | zero => exact .inl hx
      | succ i => exact .inr (ih i (by simpa using h) (by simpa using hx))
  exact h1 l i h ht
/-- CborFits. -/
def cborOk (v : V) : Prop := okV v ∧ ¬ tagIn 4 v.pre
end Go.Proofs.YtkajfinfphmlaaaDoor

/-
  Functions that hold one variable of their maker's; the values in a value counted.
-/
namespace Go.Proofs.YtkajfinfphmlaaaDoor
open Go.RowKit
set_option linter.unusedVariables false
set_option linter.unusedSimpArgs false

end Go.Proofs.YtkajfinfphmlaaaDoor

/-
  The program's hasTag.
-/
namespace Go.Proofs.YtkajfinfphmlaaaDoor
open Go.RowKit
set_option linter.unusedVariables false
set_option linter.unusedSimpArgs false
set_option maxRecDepth 100000

/-- The number and the answer that the walk's function holds. -/
def TagInv (n : Int) (q g : Nat) (xs : List V) (w : World) : Prop := Blk w q 3 #[.int .i64 n] ∧ Blk w g 4 #[.bool (decide (tagIn n xs))] ∧ q ≠ g
theorem tag_set_other {w : World} {q g : Nat} {t : TypeId} {cs : Array Value} (h : Blk w q t cs) (hq : q ≠ g) (u : Value) : Blk (w.setCell ⟨g, 0, none⟩ u) q t cs :=
  (Below.heap_setCell w ⟨g, 0, none⟩ u q (by simpa using hq)).trans h

set_option maxHeartbeats 2000000 in
theorem tag_yields (n : Int) (q g N : Nat) : Yields 45 #[.pointer (some ⟨g, 0, none⟩), .pointer (some ⟨q, 0, none⟩)] (TagInv n q g) (fun _ k => k = g) N where
  enters := enters_of Tryd.func45 (by kernel_rfl) rfl
  alloc := fun xs w o h => ⟨⟨h.1.alloc o, h.2.1.alloc o, h.2.2⟩, fun k hk => ⟨hk, by subst hk; exact h.2.1.lt⟩⟩
  step := by
    intro xs x A c w hi hB hat hhi hD hn _
    obtain ⟨hQ, hB, hne⟩ := hB
    have hlt := hB.lt
    have hlq := hQ.lt
    have HB := Lib.hid hB
    have HQ := Lib.hid hQ
    have c0 : (w.alloc (.cells #[.int .i64 x.k, .int .i64 x.n, .int .i64 x.e, .string x.s, .slice A x.kids.length c] 29)).cell? ⟨g, 0, none⟩ = some (.bool (decide (tagIn n xs))) := (hB.alloc _).cell 0
    have q0 : (w.alloc (.cells #[.int .i64 x.k, .int .i64 x.n, .int .i64 x.e, .string x.s, .slice A x.kids.length c] 29)).cell? ⟨q, 0, none⟩ = some (.int .i64 n) := (hQ.alloc _).cell 0
    have f0 : (w.alloc (.cells #[.int .i64 x.k, .int .i64 x.n, .int .i64 x.e, .string x.s, .slice A x.kids.length c] 29)).frozen? ⟨g, 0, none⟩ = false := (hB.alloc _).frozen 0
    have fin : ∀ (b : Bool), (b = true ↔ tagIn n (xs ++ [x])) → TagInv n q g (xs ++ [x]) ((w.setCell ⟨g, 0, none⟩ (.bool b)).alloc (.cells #[.int .i64 x.k, .int .i64 x.n, .int .i64 x.e, .string x.s, .slice A x.kids.length c] 29)) := fun b hb => by
      refine ⟨(tag_set_other hQ hne _).alloc _, ?_, hne⟩
      rw [show decide (tagIn n (xs ++ [x])) = b by rw [Bool.eq_iff_iff, decide_eq_true_iff]; exact hb.symm]
      exact (hB.set1 _).alloc _
    have FIN := Lib.hid fin
    have HT := Lib.hid (tagIn_append n xs [x])
    have HT1 : Hid (tagIn n [x] ↔ (x.k = 9 ∧ x.n = n)) := Lib.hid (by rw [tagIn_cons]; exact ⟨fun h => h.elim id (fun h => absurd h (tagIn_nil n)), .inl⟩)
    clear hB hQ hat hD fin
    unfold V.agg
    show Calls Tryd.prog 45 #[_, _, _] w _
    by_cases ht : tagIn n xs
    · rw [show decide (tagIn n xs) = true from decide_eq_true ht] at c0
      have HY := Lib.hid (HT.out.2 (.inl ht))
      clear ht
      go_enter Tryd.func45, Tryd.ntmps45
      go_wp2_with fail
      go_end0
      exact ⟨rfl, FIN.out true ⟨fun _ => HY.out, fun _ => rfl⟩, keep_alloc1 (keep_set1 (Keep.refl w) _) _⟩
    · rw [show decide (tagIn n xs) = false from decide_eq_false ht] at c0
      have HF := Lib.hid ht
      clear ht
      rcases (show ((x.k == 9) = false ∧ ¬ (x.k = 9 ∧ x.n = n)) ∨ ((x.k == 9) = true ∧ (x.n == n) = false ∧ ¬ (x.k = 9 ∧ x.n = n)) ∨ ((x.k == 9) = true ∧ (x.n == n) = true ∧ (x.k = 9 ∧ x.n = n)) by
        by_cases h9 : x.k = 9
        · by_cases hnn : x.n = n
          · exact .inr (.inr ⟨by rw [h9]; rfl, by rw [hnn]; simp, h9, hnn⟩)
          · exact .inr (.inl ⟨by rw [h9]; rfl, by simpa using hnn, fun h => hnn h.2⟩)
        · exact .inl ⟨by simpa using h9, fun h => h9 h.1⟩) with ⟨q9, hx⟩ | ⟨q9, qn, hx⟩ | ⟨q9, qn, hx⟩
      · have HN : Hid (¬ tagIn n (xs ++ [x])) := Lib.hid (fun h => (HT.out.1 h).elim HF.out (fun h => hx (HT1.out.1 h)))
        clear hx
        go_enter Tryd.func45, Tryd.ntmps45
        go_wp2_with fail
        go_end0
        exact ⟨rfl, FIN.out false ⟨fun h => (by cases h), fun h => absurd h HN.out⟩, keep_alloc1 (keep_set1 (Keep.refl w) _) _⟩
      · have HN : Hid (¬ tagIn n (xs ++ [x])) := Lib.hid (fun h => (HT.out.1 h).elim HF.out (fun h => hx (HT1.out.1 h)))
        clear hx
        go_enter Tryd.func45, Tryd.ntmps45
        go_wp2_with fail
        go_end0
        exact ⟨rfl, FIN.out false ⟨fun h => (by cases h), fun h => absurd h HN.out⟩, keep_alloc1 (keep_set1 (Keep.refl w) _) _⟩
      · have HY : Hid (tagIn n (xs ++ [x])) := Lib.hid (HT.out.2 (.inr (HT1.out.2 hx)))
        clear hx
        go_enter Tryd.func45, Tryd.ntmps45
        go_wp2_with fail
        go_end0
        exact ⟨rfl, FIN.out true ⟨fun _ => HY.out, fun _ => rfl⟩, keep_alloc1 (keep_set1 (Keep.refl w) _) _⟩

set_option maxHeartbeats 1000000 in
theorem implHasTag (v : V) (n : Int) (A : Option Addr) (cap : Nat) (w : World) (hn : v.nodes ≤ 1048577) (hat : Vs.at_ w 0 w.heap.size v.kids A) :
    Calls Tryd.prog 28 #[v.agg A cap, .int .i64 n] w fun e w' => e = .returned (.bool (decide (tagIn n v.pre))) ∧ Below w.heap.size w w' := by
  have HA := Lib.hid hat
  have H0 : Hid (decide (tagIn n []) = false) := Lib.hid (decide_eq_false (tagIn_nil n))
  clear hat
  unfold V.agg
  go_enter Tryd.func28, Tryd.ntmps28
  go_wp2_with fail
  have hQ := Blk.new (w.alloc (.cells #[.int .i64 v.k, .int .i64 v.n, .int .i64 v.e, .string v.s, .slice A v.kids.length cap] 29)) 3 #[.int .i64 n]
  have hB := Blk.new ((w.alloc (.cells #[.int .i64 v.k, .int .i64 v.n, .int .i64 v.e, .string v.s, .slice A v.kids.length cap] 29)).alloc (.cells #[.int .i64 n] 3)) 4 #[.bool false]
  refine (walk_any (tag_yields n (w.heap.size + 1) (w.heap.size + 1 + 1) v.nodes) v A cap [] _ w.heap.size ⟨by simpa using hQ.alloc _, by rw [H0.out]; simpa using hB, by omega⟩ (Vs.at_alloc (Vs.at_alloc (Vs.at_alloc HA.out (Nat.le_refl _) _) (by simp) _) (by simp; omega) _) (by simp; omega) (fun k hk => by omega) hn (by simp)).mono ?_
  rintro e w1 ⟨rfl, hi1, k1⟩
  have c1 := hi1.2.1.cell 0
  simp only [List.nil_append] at c1
  go_wp2_with fail
  go_ret
  exact ⟨rfl, k1.below ((((Below.refl _ w).alloc (Nat.le_refl _) _).alloc (by simp) _).alloc (by simp; omega) _) (by simp; omega) (fun k hk => by omega)⟩
end Go.Proofs.YtkajfinfphmlaaaDoor

/-
  The program's PutCbor.
-/
namespace Go.Proofs.YtkajfinfphmlaaaDoor
open Go.RowKit
set_option linter.unusedVariables false
set_option linter.unusedSimpArgs false
set_option maxRecDepth 100000

/-- PutCbor. -/
noncomputable def putCborL (v : V) : List UInt8 := if cborOk v then v.cbor else []
theorem putCborL_no {v : V} (h : ¬ cborOk v) : putCborL v = [] := if_neg h
theorem putCborL_yes {v : V} (h : cborOk v) : putCborL v = v.cbor := if_pos h
theorem cbor_small {v : V} (h : v.weight ≤ 1048576) : v.cbor.length ≤ 50000000 := by
  have h1 := V.cbor_len v
  have h2 := V.nodes_weight v
  omega

set_option maxHeartbeats 2000000 in
theorem implPutCbor (v : V) (A : Option Addr) (cap : Nat) (w : World) (hf : v.fits) (hw : v.weight ≤ 1048576) (hT : Tabs w) (hat : Vs.at_ w 0 w.heap.size v.kids A) :
    Calls Tryd.prog 13 #[v.agg A cap] w fun e w' => e = .returned (.string (str (putCborL v))) ∧ Below w.heap.size w w' := by
  have hnn : v.nodes ≤ 1048577 := by have := V.nodes_weight v; omega
  have HA := Lib.hid hat
  have HT := Lib.hid hT
  have HF := Lib.hid hf
  have HS := Lib.hid (cbor_small hw)
  clear hat hT hf
  unfold V.agg
  go_enter Tryd.func13, Tryd.ntmps13
  go_wp2_with fail
  have b0 : Below w.heap.size w (w.alloc (.cells #[.int .i64 v.k, .int .i64 v.n, .int .i64 v.e, .string v.s, .slice A v.kids.length cap] 29)) := (Below.refl _ w).alloc (Nat.le_refl _) _
  have B0 := Blk.new w 29 #[.int .i64 v.k, .int .i64 v.n, .int .i64 v.e, .string v.s, .slice A v.kids.length cap]
  refine (implValueOk v A cap _ hw (HT.out.below b0) (Vs.at_more (Nat.le_refl _) b0.size _ _ (Vs.at_below HA.out b0 (Nat.le_refl _)))).mono ?_
  rintro e w1 ⟨rfl, hb1⟩
  have B1 := B0.below hb1 (by simp)
  obtain ⟨p0, p1, p2, p3, p4⟩ := B1.five
  have b1 : Below w.heap.size w w1 := b0.trans (hb1.mono b0.size)
  clear hb1 b0 B0
  by_cases hv : okV v
  · rw [show decide (okV v) = true from decide_eq_true hv]
    have HV := Lib.hid hv
    clear hv
    go_wp2_with fail
    refine (implHasTag v 4 A cap w1 hnn (Vs.at_more (Nat.le_refl _) b1.size _ _ (Vs.at_below HA.out b1 (Nat.le_refl _)))).mono ?_
    rintro e w2 ⟨rfl, hb2⟩
    have B2 := B1.below hb2 B1.lt
    clear p0 p1 p2 p3 p4
    obtain ⟨p0, p1, p2, p3, p4⟩ := B2.five
    have b2 : Below w.heap.size w w2 := b1.trans (hb2.mono b1.size)
    have ltv := B2.lt
    clear hb2 b1 B1
    by_cases ht : tagIn 4 v.pre
    · rw [show decide (tagIn 4 v.pre) = true from decide_eq_true ht]
      have HN := Lib.hid (putCborL_no (v := v) (fun h => h.2 ht))
      clear ht
      go_wp2_with fail
      go_ret
      exact ⟨ret_eq (by rw [HN.out]; rfl), b2⟩
    · rw [show decide (tagIn 4 v.pre) = false from decide_eq_false ht]
      have HY := Lib.hid (putCborL_yes (v := v) ⟨HV.out, ht⟩)
      clear ht
      go_wp2_with fail
      have hb3 : Below w2.heap.size w2 (w2.alloc (.cells #[.pointer none, .slice none 0 0] 40)) := (Below.refl _ w2).alloc (Nat.le_refl _) _
      refine (implCbor v A cap w2.heap.size w2.heap.size [] _ ⟨_, HV.out.1⟩ HF.out hw (by have := HS.out; simp; omega) (Vs.at_more (Nat.le_refl _) b2.size _ _ (Vs.at_below HA.out (b2.alloc b2.size _) (Nat.le_refl _))) (by simp) (BF.new w2 _ (Nat.le_refl _))).mono ?_
      rintro e w4 ⟨rfl, F4, b4, k4⟩
      have hb4 : Below w.heap.size w w4 := (b2.alloc b2.size _).trans (b4.mono b2.size)
      have hs4 : w2.heap.size ≤ w4.heap.size := by have := b4.size; simp at this; omega
      have HF4 := Lib.hid F4
      have HB4 := Lib.hid hb4
      clear F4 b4 k4 hb3 hb4 p0 p1 p2 p3 p4 B2
      go_wp2_with fail
      refine (bfString w2.heap.size w2.heap.size _ w4 HF4.out hs4).mono ?_
      rintro e w5 ⟨rfl, hb5⟩
      have hb5' : Below w.heap.size w w5 := HB4.out.trans (hb5.mono b2.size)
      clear hb5
      go_wp2_with fail
      go_ret
      exact ⟨ret_eq (by rw [HY.out]; rfl), hb5'⟩
  · rw [show decide (okV v) = false from decide_eq_false hv]
    have HN := Lib.hid (putCborL_no (v := v) (fun h => hv h.1))
    clear hv
    go_wp2_with fail
    go_ret
    exact ⟨ret_eq (by rw [HN.out]; rfl), b1⟩
end Go.Proofs.YtkajfinfphmlaaaDoor

/-
  PutHead of the reference.
-/
namespace Go.Proofs.YtkajfinfphmlaaaDoor
open Go.RowKit
set_option linter.unusedVariables false
set_option maxRecDepth 100000

theorem bigAt (x : Int) (n m : Nat) (hx : x = n) (w : World) (hn : n < 18446744073709551616) (hm : m ≤ 8) :
    Calls Tryd.prog 50 #[.int .u64 x, .int .i64 m] w fun e w' => ∃ y, e = .returned (.string y) ∧ Named y (wide n m) ∧ y.size ≤ 8 ∧ Below w.heap.size w w' := by
  subst hx
  refine (specL05Big n m w hn hm).mono ?_
  rintro e w' ⟨rfl, hb⟩
  exact ⟨_, rfl, rfl, by rw [size_str, wide_len]; exact hm, hb⟩
set_option maxHeartbeats 1000000 in
set_option maxRecDepth 100000 in
theorem specPutHead_0 (M n : Nat) (w : World) (hM : M < 8) (h : n < 24) :
    Calls Tryd.prog 42 #[.int .i64 M, .int .u64 n] w fun e w' => e = .returned (.string (str (wide (32 * M + n : Nat) 1))) ∧ Below w.heap.size w w' := by
  have hd : decide ((M : Int) ≤ 7) = true := by simp; omega
  have hd1 : decide ((n : Int) < 24) = true := by simp; omega
  go_enter Tryd.func42, Tryd.ntmps42
  go_wp2_with (go_at_call 49; go_in)
  refine (bigAt _ (32 * M + n) 1 (by go_num) _ (by omega) (by omega)).mono ?_
  rintro e w1 ⟨x1, rfl, H1, hs1, hb1⟩
  go_wp2_with fail
  go_ret
  exact ⟨ret_eq (congrArg Value.string H1), hb1⟩

set_option maxHeartbeats 1000000 in
set_option maxRecDepth 100000 in
theorem specPutHead_1 (M n : Nat) (w : World) (hM : M < 8) (h : 24 ≤ n ∧ n < 256) :
    Calls Tryd.prog 42 #[.int .i64 M, .int .u64 n] w fun e w' => e = .returned (.string (str (wide (32 * M + 24 : Nat) 1 ++ wide n 1))) ∧ Below w.heap.size w w' := by
  have hd : decide ((M : Int) ≤ 7) = true := by simp; omega
  have hd1 : decide ((n : Int) < 24) = false := by simp; omega
  have hd2 : decide ((n : Int) < 256) = true := by simp; omega
  go_enter Tryd.func42, Tryd.ntmps42
  go_wp2_with (go_at_call 49; go_in)
  refine (bigAt _ (32 * M + 24) 1 (by go_num) _ (by omega) (by omega)).mono ?_
  rintro e w1 ⟨x1, rfl, H1, hs1, hb1⟩
  go_wp2_with fail
  refine (bigAt _ n 1 rfl _ (by omega) (by omega)).mono ?_
  rintro e w2 ⟨x2, rfl, H2, hs2, hb2⟩
  clear h hd hd1
  go_wp2_with fail
  go_ret
  exact ⟨ret_eq (congrArg Value.string (named_add H1 H2)), hb1.trans (hb2.mono hb1.size)⟩

set_option maxHeartbeats 1000000 in
set_option maxRecDepth 100000 in
theorem specPutHead_2 (M n : Nat) (w : World) (hM : M < 8) (h : 256 ≤ n ∧ n < 65536) :
    Calls Tryd.prog 42 #[.int .i64 M, .int .u64 n] w fun e w' => e = .returned (.string (str (wide (32 * M + 25 : Nat) 1 ++ wide n 2))) ∧ Below w.heap.size w w' := by
  have hd : decide ((M : Int) ≤ 7) = true := by simp; omega
  have hd1 : decide ((n : Int) < 24) = false := by simp; omega
  have hd2 : decide ((n : Int) < 256) = false := by simp; omega
  have hd3 : decide ((n : Int) < 65536) = true := by simp; omega
  go_enter Tryd.func42, Tryd.ntmps42
  go_wp2_with (go_at_call 49; go_in)
  refine (bigAt _ (32 * M + 25) 1 (by go_num) _ (by omega) (by omega)).mono ?_
  rintro e w1 ⟨x1, rfl, H1, hs1, hb1⟩
  go_wp2_with fail
  refine (bigAt _ n 2 rfl _ (by omega) (by omega)).mono ?_
  rintro e w2 ⟨x2, rfl, H2, hs2, hb2⟩
  clear h hd hd1
  go_wp2_with fail
  go_ret
  exact ⟨ret_eq (congrArg Value.string (named_add H1 H2)), hb1.trans (hb2.mono hb1.size)⟩

set_option maxHeartbeats 1000000 in
set_option maxRecDepth 100000 in
theorem specPutHead_3 (M n : Nat) (w : World) (hM : M < 8) (h : 65536 ≤ n ∧ n < 4294967296) :
    Calls Tryd.prog 42 #[.int .i64 M, .int .u64 n] w fun e w' => e = .returned (.string (str (wide (32 * M + 26 : Nat) 1 ++ wide n 4))) ∧ Below w.heap.size w w' := by
  have hd : decide ((M : Int) ≤ 7) = true := by simp; omega
  have hd1 : decide ((n : Int) < 24) = false := by simp; omega
  have hd2 : decide ((n : Int) < 256) = false := by simp; omega
  have hd3 : decide ((n : Int) < 65536) = false := by simp; omega
  have hd4 : decide ((n : Int) < 4294967296) = true := by simp; omega
  go_enter Tryd.func42, Tryd.ntmps42
  go_wp2_with (go_at_call 49; go_in)
  refine (bigAt _ (32 * M + 26) 1 (by go_num) _ (by omega) (by omega)).mono ?_
  rintro e w1 ⟨x1, rfl, H1, hs1, hb1⟩
  go_wp2_with fail
  refine (bigAt _ n 4 rfl _ (by omega) (by omega)).mono ?_
  rintro e w2 ⟨x2, rfl, H2, hs2, hb2⟩
  clear h hd hd1
  go_wp2_with fail
  go_ret
  exact ⟨ret_eq (congrArg Value.string (named_add H1 H2)), hb1.trans (hb2.mono hb1.size)⟩

set_option maxHeartbeats 1000000 in
set_option maxRecDepth 100000 in
theorem specPutHead_4 (M n : Nat) (w : World) (hM : M < 8) (h : 4294967296 ≤ n ∧ n < 18446744073709551616) :
    Calls Tryd.prog 42 #[.int .i64 M, .int .u64 n] w fun e w' => e = .returned (.string (str (wide (32 * M + 27 : Nat) 1 ++ wide n 8))) ∧ Below w.heap.size w w' := by
  have hd : decide ((M : Int) ≤ 7) = true := by simp; omega
  have hd1 : decide ((n : Int) < 24) = false := by simp; omega
  have hd2 : decide ((n : Int) < 256) = false := by simp; omega
  have hd3 : decide ((n : Int) < 65536) = false := by simp; omega
  have hd4 : decide ((n : Int) < 4294967296) = false := by simp; omega
  go_enter Tryd.func42, Tryd.ntmps42
  go_wp2_with (go_at_call 49; go_in)
  refine (bigAt _ (32 * M + 27) 1 (by go_num) _ (by omega) (by omega)).mono ?_
  rintro e w1 ⟨x1, rfl, H1, hs1, hb1⟩
  go_wp2_with fail
  refine (bigAt _ n 8 rfl _ (by omega) (by omega)).mono ?_
  rintro e w2 ⟨x2, rfl, H2, hs2, hb2⟩
  clear h hd hd1
  go_wp2_with fail
  go_ret
  exact ⟨ret_eq (congrArg Value.string (named_add H1 H2)), hb1.trans (hb2.mono hb1.size)⟩

theorem specPutHead (M : Int) (n : Nat) (w : World) (hn : n < 18446744073709551616) :
    Calls Tryd.prog 42 #[.int .i64 M, .int .u64 n] w fun e w' => e = .returned (.string (str (putHeadL M n))) ∧ Below w.heap.size w w' := by
  by_cases h : 0 ≤ M ∧ M ≤ 7
  · obtain ⟨M, rfl⟩ := Int.eq_ofNat_of_zero_le h.1
    have hM : M < 8 := by omega
    have hp : putHeadL M n = headL M n := by unfold putHeadL; rw [if_pos h, Int.toNat_natCast]
    rw [hp]
    unfold headL
    by_cases h1 : n < 24
    · rw [if_pos h1]; exact specPutHead_0 M n w hM h1
    · rw [if_neg h1]
      by_cases h2 : n < 256
      · rw [if_pos h2]; exact specPutHead_1 M n w hM (by omega)
      · rw [if_neg h2]
        by_cases h3 : n < 65536
        · rw [if_pos h3]; exact specPutHead_2 M n w hM (by omega)
        · rw [if_neg h3]
          by_cases h4 : n < 4294967296
          · rw [if_pos h4]; exact specPutHead_3 M n w hM (by omega)
          · rw [if_neg h4]; exact specPutHead_4 M n w hM (by omega)
  · have hp : putHeadL M n = [] := by unfold putHeadL; rw [if_neg h]
    rw [hp]
    clear hp hn
    rcases (show decide (0 ≤ M) = false ∨ (decide (0 ≤ M) = true ∧ decide (M ≤ 7) = false) by simp; omega) with hc | hc
    all_goals
      clear h
      go_enter Tryd.func42, Tryd.ntmps42
      go_wp2_with (go_at_call 49; go_in)
      go_ret
      exact ⟨rfl, Below.refl _ _⟩

end Go.Proofs.YtkajfinfphmlaaaDoor

/-
  The reference's l05Four and CborFits.
-/
namespace Go.Proofs.YtkajfinfphmlaaaDoor
open Go.RowKit
set_option linter.unusedVariables false
set_option linter.unusedSimpArgs false
set_option maxRecDepth 100000

def SpecFourSaid (v : V) : Prop := ∀ (A : Option Addr) (cap : Nat) (w : World), v.nodes ≤ 1048577 → Vs.at_ w 0 w.heap.size v.kids A →
    Calls Tryd.prog 41 #[v.agg A cap] w fun e w' => e = .returned (.bool (decide (tagIn 4 v.pre))) ∧ Below w.heap.size w w'

set_option maxHeartbeats 2000000 in
theorem specFour_step (v : V) (hk : ∀ i (h : i < v.kids.length), SpecFourSaid v.kids[i]) : SpecFourSaid v := by
  intro A cap w hn hat
  rw [V.nodes_eq] at hn
  have hl : v.kids.length ≤ 1048576 := by have := Vs.len_nodes v.kids; omega
  have HK := fun (i : Nat) (h : i < v.kids.length) (A' : Option Addr) (c : Nat) (w' : World) (h1 : Vs.at_ w' 0 w'.heap.size (v.kids[i]).kids A') => hk i h A' c w' (by have := Vs.nodes_get i h; omega) h1
  have HC := Lib.hid HK
  have HA := Lib.hid hat
  have HE := Lib.hid (tagIn_pre 4 v)
  clear HK hk hat
  unfold V.agg
  rcases (show ((v.k == 9) = true ∧ (v.n == 4) = true ∧ tagIn 4 v.pre) ∨ (((v.k == 9) = false ∨ ((v.k == 9) = true ∧ (v.n == 4) = false)) ∧ ¬ (v.k = 9 ∧ v.n = 4)) by
    by_cases h9 : v.k = 9
    · by_cases h4 : v.n = 4
      · exact .inl ⟨by rw [h9]; rfl, by rw [h4]; rfl, HE.out.2 (.inl ⟨h9, h4⟩)⟩
      · exact .inr ⟨.inr ⟨by rw [h9]; rfl, by simpa using h4⟩, fun h => h4 h.2⟩
    · exact .inr ⟨.inl (by simpa using h9), fun h => h9 h.1⟩) with ⟨q9, q4, hx⟩ | ⟨hq, hx⟩
  · have HY := Lib.hid hx
    clear hx
    go_enter Tryd.func41, Tryd.ntmps41
    go_wp2_with fail
    go_ret
    exact ⟨ret_bool (decide_eq_true HY.out).symm, (Below.refl _ _).alloc (Nat.le_refl _) _⟩
  · have HI : Hid (tagIn 4 v.pre ↔ tagIn 4 (Vs.pre v.kids)) := Lib.hid (HE.out.trans ⟨fun h => h.elim (fun h => absurd h hx) id, .inr⟩)
    clear hx HE
    rcases hq with q9 | ⟨q9, q4⟩
    all_goals
      go_enter Tryd.func41, Tryd.ntmps41
      go_wp2_with fail
      go_loopw [3] (fun i wr => ∃ j : Nat, j ≤ v.kids.length ∧ i = .int .i64 j ∧ ¬ tagIn 4 (Vs.pre (v.kids.take j)) ∧ Blk wr w.heap.size 29 #[.int .i64 v.k, .int .i64 v.n, .int .i64 v.e, .string v.s, .slice A v.kids.length cap] ∧ Below w.heap.size w wr) (fun i _ => v.kids.length - (intOf i).toNat)
      case atStart => exact ⟨0, Nat.zero_le _, rfl, by simpa [Vs.pre] using tagIn_nil 4, Blk.new _ _ _, (Below.refl _ _).alloc (Nat.le_refl _) _⟩
      case round =>
        obtain ⟨j, hj, rfl, ht, B, hb⟩ := hrel
        have HT := Lib.hid ht
        have b4 : wr.cell? ⟨w.heap.size, 4, none⟩ = some (.slice A v.kids.length cap) := B.cell 4
        clear ht
        by_cases hlt : j < v.kids.length
        · obtain ⟨b, off, A', cap', rfl, g1, g2, g3, ⟨c0, c1, c2, c3, c4⟩, g5⟩ := Vs.at_get j hlt (Vs.at_below HA.out hb (Nat.le_refl _))
          go_wp2_with fail
          refine (HC.out j hlt A' cap' _ (Vs.at_more (Nat.le_refl _) hb.size _ _ g5)).mono ?_
          rintro e w1 ⟨rfl, hb1⟩
          have hbw : Below w.heap.size w w1 := hb.trans (hb1.mono hb.size)
          have B' := B.below hb1 B.lt
          clear c0 c1 c2 c3 c4 b4
          by_cases hv : tagIn 4 (v.kids[j]).pre
          · rw [show decide (tagIn 4 (v.kids[j]).pre) = true from decide_eq_true hv]
            have HY := Lib.hid (HI.out.2 (tagIn_get 4 v.kids j hlt hv))
            clear hv
            go_wp2_with fail
            go_ret
            exact ⟨ret_bool (decide_eq_true HY.out).symm, hbw⟩
          · rw [show decide (tagIn 4 (v.kids[j]).pre) = false from decide_eq_false hv]
            have HN : Hid (¬ tagIn 4 (Vs.pre (v.kids.take (j + 1)))) := Lib.hid (fun h => ((tagIn_step 4 v.kids j hlt).1 h).elim HT.out hv)
            clear hv
            go_wp2_with fail
            go_roundw
            case rel => exact ⟨j + 1, by omega, by go_num, HN.out, B', hbw⟩
            case measure => simp [intOf]; omega
        · obtain rfl : j = v.kids.length := by omega
          have HN : Hid (¬ tagIn 4 v.pre) := Lib.hid (fun h => HT.out (by rw [List.take_length]; exact HI.out.1 h))
          go_wp2_with fail
          go_ret
          exact ⟨ret_bool (decide_eq_false HN.out).symm, hb⟩
theorem specFour : ∀ v, SpecFourSaid v := V.all specFour_step

set_option maxHeartbeats 1000000 in
theorem specCborFits (v : V) (A : Option Addr) (cap : Nat) (w : World) (hw : v.weight ≤ 1048576) (hat : Vs.at_ w 0 w.heap.size v.kids A) :
    Calls Tryd.prog 26 #[v.agg A cap] w fun e w' => e = .returned (.bool (decide (cborOk v))) ∧ Below w.heap.size w w' := by
  have hnn : v.nodes ≤ 1048577 := by have := V.nodes_weight v; omega
  have HA := Lib.hid hat
  clear hat
  unfold V.agg
  go_enter Tryd.func26, Tryd.ntmps26
  go_wp2_with fail
  have b0 : Below w.heap.size w (w.alloc (.cells #[.int .i64 v.k, .int .i64 v.n, .int .i64 v.e, .string v.s, .slice A v.kids.length cap] 29)) := (Below.refl _ w).alloc (Nat.le_refl _) _
  have B0 := Blk.new w 29 #[.int .i64 v.k, .int .i64 v.n, .int .i64 v.e, .string v.s, .slice A v.kids.length cap]
  refine (specValueOk v A cap _ hw (Vs.at_more (Nat.le_refl _) b0.size _ _ (Vs.at_below HA.out b0 (Nat.le_refl _)))).mono ?_
  rintro e w1 ⟨rfl, hb1⟩
  have B1 := B0.below hb1 (by simp)
  obtain ⟨p0, p1, p2, p3, p4⟩ := B1.five
  have b1 : Below w.heap.size w w1 := b0.trans (hb1.mono b0.size)
  clear hb1 b0 B0
  by_cases hv : okV v
  · rw [show decide (okV v) = true from decide_eq_true hv]
    have HV := Lib.hid hv
    clear hv
    go_wp2_with fail
    refine (specFour v A cap w1 hnn (Vs.at_more (Nat.le_refl _) b1.size _ _ (Vs.at_below HA.out b1 (Nat.le_refl _)))).mono ?_
    rintro e w2 ⟨rfl, hb2⟩
    have HD : Hid (decide (cborOk v) = !decide (tagIn 4 v.pre)) := Lib.hid (by
      rw [Bool.eq_iff_iff]
      simp only [decide_eq_true_iff, Bool.not_eq_true', decide_eq_false_iff_not]
      exact ⟨fun h => h.2, fun h => ⟨HV.out, h⟩⟩)
    go_wp2_with fail
    go_ret
    exact ⟨ret_bool HD.out.symm, b1.trans (hb2.mono b1.size)⟩
  · rw [show decide (okV v) = false from decide_eq_false hv]
    have HN : Hid (¬ cborOk v) := Lib.hid (fun h => hv h.1)
    clear hv
    go_wp2_with fail
    go_ret
    exact ⟨ret_bool (decide_eq_false HN.out).symm, b1⟩
end Go.Proofs.YtkajfinfphmlaaaDoor

/-
  The reference's form of a value.
-/
namespace Go.Proofs.YtkajfinfphmlaaaDoor
open Go.RowKit
set_option linter.unusedVariables false
set_option linter.unusedSimpArgs false
set_option maxRecDepth 100000

set_option maxHeartbeats 1000000 in
theorem specNum (n : Int) (w : World) (hn : inI n) :
    Calls Tryd.prog 43 #[.int .i64 n] w fun e w' => e = .returned (.string (str (cborInt n))) ∧ Below w.heap.size w w' := by
  unfold inI at hn
  by_cases h : n < 0
  · have hd : decide (0 ≤ n) = false := decide_eq_false (by omega)
    have HP := Lib.hid (specPutHead 1 (-1 - n).toNat w (by omega))
    have HE : Hid (cborInt n = putHeadL 1 (-1 - n).toNat) := Lib.hid (by unfold cborInt; rw [if_pos h])
    have e : (((-1 - n).toNat : Nat) : Int) = IntKind.u64.wrap (-1 - n) := by rw [IntKind.wrap_u64]; omega
    rw [e] at HP
    clear e h
    go_enter Tryd.func43, Tryd.ntmps43
    go_wp2_with fail
    refine HP.out.mono ?_
    rintro e w1 ⟨rfl, hb1⟩
    go_wp2_with fail
    go_ret
    exact ⟨ret_eq (by rw [HE.out]; rfl), hb1⟩
  · have hd : decide (0 ≤ n) = true := decide_eq_true (by omega)
    have HP := Lib.hid (specPutHead 0 n.toNat w (by omega))
    have HE : Hid (cborInt n = putHeadL 0 n.toNat) := Lib.hid (by unfold cborInt; rw [if_neg h])
    have e : ((n.toNat : Nat) : Int) = n := by omega
    have hun : IntKind.u64.wrap n = n := by rw [IntKind.wrap_u64]; omega
    rw [e] at HP
    have h0 : 0 ≤ n := by omega
    clear e h
    go_enter Tryd.func43, Tryd.ntmps43
    go_wp2_with fail
    refine HP.out.mono ?_
    rintro e w1 ⟨rfl, hb1⟩
    go_wp2_with fail
    go_ret
    exact ⟨ret_eq (by rw [HE.out]; rfl), hb1⟩

def SpecCborSaid (v : V) : Prop := ∀ (A : Option Addr) (cap : Nat) (w : World), (∃ d, V.right d v) → v.fits → v.weight ≤ 1048576 → Vs.at_ w 0 w.heap.size v.kids A →
    Calls Tryd.prog 27 #[v.agg A cap] w fun e w' => e = .returned (.string (str v.cbor)) ∧ Below w.heap.size w w'
theorem leaf_kids {d : Int} {v : V} (hr : V.right d v) (h : 0 ≤ v.k ∧ v.k ≤ 6) : v.kids = [] := by
  have h3 := ((V.right_eq _ _).1 hr).2.1.2
  unfold kidsOk at h3
  have hk : v.k = 0 ∨ v.k = 1 ∨ v.k = 2 ∨ v.k = 3 ∨ v.k = 4 ∨ v.k = 5 ∨ v.k = 6 := by omega
  rcases hk with hk | hk | hk | hk | hk | hk | hk <;> simp [hk] at h3 <;> exact h3
theorem leaf_cbor {v : V} (h : v.kids = []) : v.cbor = v.ownCbor := by rw [V.cbor_eq, h]; simp [Vs.cbor]
theorem kid_len {v : V} {j : Nat} (hj : j < v.kids.length) : (v.ownCbor ++ Vs.cbor (v.kids.take j)).length + (v.kids[j]).cbor.length ≤ v.cbor.length := by
  have h1 := congrArg List.length (Vs.cbor_step v.kids j hj)
  have h2 : ∀ (l : List V) i, (Vs.cbor (l.take i)).length ≤ (Vs.cbor l).length := by
    intro l
    induction l with
    | nil => intro i; simp
    | cons a l ih =>
      intro i
      cases i with
      | zero => simp [Vs.cbor]
      | succ i => simp only [List.take_succ_cons, Vs.cbor, List.length_append]; have := ih i; omega
  have h3 := h2 v.kids (j + 1)
  have h4 := congrArg List.length (V.cbor_eq v)
  rw [List.length_append] at h1 h4
  rw [List.length_append]
  omega
theorem kid_cbor (v : V) (j : Nat) (hj : j < v.kids.length) : str (v.ownCbor ++ Vs.cbor (v.kids.take j)) ++ str (v.kids[j]).cbor = str (v.ownCbor ++ Vs.cbor (v.kids.take (j + 1))) := by
  rw [str_add, Vs.cbor_step v.kids j hj, List.append_assoc]

set_option maxHeartbeats 4000000 in
theorem specCbor_0 (v : V) (hk : ∀ i (h : i < v.kids.length), SpecCborSaid v.kids[i]) (hkd : v.k = 0) : SpecCborSaid v := by
  intro A cap w hr hf hw hat
  obtain ⟨d, hr⟩ := hr
  have hr3 := (V.right_eq _ _).1 hr
  obtain ⟨hw1, hw2, hw3⟩ := V.weight_kids v
  have hl : v.kids.length ≤ 1048576 := by omega
  have hss : v.s.size ≤ 1048576 := by omega
  have hf3 := (V.fits_eq v).1 hf
  have HKR := Lib.hid (fun (i : Nat) (h : i < v.kids.length) => (Vs.right_iff _ _).1 hr3.2.2 i h)
  have HKF := Lib.hid (fun (i : Nat) (h : i < v.kids.length) => Vs.fits_get i h hf3.2.2.1)
  have HKW := Lib.hid (fun (i : Nat) (h : i < v.kids.length) => (show (v.kids[i]).weight ≤ 1048576 by have := Vs.weight_get i h; omega))
  have HL := Lib.hid (cbor_small hw)
  have HC := Lib.hid hk
  have HA := Lib.hid hat
  have HQ := Lib.hid (V.cbor_eq v)
  have RN := Lib.hid hf3.2.2.2.2.1
  have RE := Lib.hid hf3.2.2.2.2.2
  have q0 : (v.k == 0) = true := by rw [hkd]; rfl
  have q1 : (v.k == 1) = false := by rw [hkd]; rfl
  have q2 : (v.k == 2) = false := by rw [hkd]; rfl
  have q3 : (v.k == 3) = false := by rw [hkd]; rfl
  have q4 : (v.k == 4) = false := by rw [hkd]; rfl
  have q5 : (v.k == 5) = false := by rw [hkd]; rfl
  have q6 : (v.k == 6) = false := by rw [hkd]; rfl
  have q7 : (v.k == 7) = false := by rw [hkd]; rfl
  have q8 : (v.k == 8) = false := by rw [hkd]; rfl
  have q9 : (v.k == 9) = false := by rw [hkd]; rfl
  have HO : Hid (v.ownCbor = putHeadL 7 22) := Lib.hid (by unfold V.ownCbor; simp [hkd])
  have hon : (putHeadL 7 22).length ≤ 1048616 := by have h1 := V.ownCbor_len v; rw [HO.out] at h1; omega
  have HX := Lib.hid (leaf_cbor (leaf_kids hr (by omega)))
  have hu0 : IntKind.u64.wrap (v.kids.length : Int) = (v.kids.length : Int) := by rw [IntKind.wrap_u64]; omega
  have hu1 : IntKind.u64.wrap ((v.kids.length : Int) / 2) = (v.kids.length : Int) / 2 := by rw [IntKind.wrap_u64]; omega
  have hs1 : IntKind.u64.wrap (v.s.size : Int) = (v.s.size : Int) := by rw [IntKind.wrap_u64]; omega
  clear hk hat hr hr3 hf hf3 hkd
  have hb0 : Below w.heap.size w (w.alloc (.cells #[.int .i64 v.k, .int .i64 v.n, .int .i64 v.e, .string v.s, .slice A v.kids.length cap] 29)) := (Below.refl _ w).alloc (Nat.le_refl _) _
  obtain ⟨w0, hw0⟩ : ∃ w0, w0 = w.alloc (.cells #[.int .i64 v.k, .int .i64 v.n, .int .i64 v.e, .string v.s, .slice A v.kids.length cap] 29) := ⟨_, rfl⟩
  have B0 : Blk w0 w.heap.size 29 #[.int .i64 v.k, .int .i64 v.n, .int .i64 v.e, .string v.s, .slice A v.kids.length cap] := by rw [hw0]; exact Blk.new w _ _
  rw [← hw0] at hb0
  have hs0 := hb0.size
  have lv := B0.lt
  have HB0 := Lib.hid hb0
  have HV0 := Lib.hid B0
  obtain ⟨p0, p1, p2, p3, p4⟩ := B0.five
  clear hb0 B0
  unfold V.agg
  go_enter Tryd.func27, Tryd.ntmps27
  go_wp2_with fail
  rw [← hw0]
  clear hw0
  have HP := specPutHead 7 22 w0 (by omega)
  refine HP.mono ?_
  rintro e w1 ⟨rfl, hbx⟩
  clear HP
  go_wp2_with fail
  go_ret
  exact ⟨ret_eq (by rw [HX.out, HO.out]; rfl), HB0.out.trans (hbx.mono hs0)⟩

set_option maxHeartbeats 4000000 in
theorem specCbor_1 (v : V) (hk : ∀ i (h : i < v.kids.length), SpecCborSaid v.kids[i]) (hkd : v.k = 1) : SpecCborSaid v := by
  intro A cap w hr hf hw hat
  obtain ⟨d, hr⟩ := hr
  have hr3 := (V.right_eq _ _).1 hr
  obtain ⟨hw1, hw2, hw3⟩ := V.weight_kids v
  have hl : v.kids.length ≤ 1048576 := by omega
  have hss : v.s.size ≤ 1048576 := by omega
  have hf3 := (V.fits_eq v).1 hf
  have HKR := Lib.hid (fun (i : Nat) (h : i < v.kids.length) => (Vs.right_iff _ _).1 hr3.2.2 i h)
  have HKF := Lib.hid (fun (i : Nat) (h : i < v.kids.length) => Vs.fits_get i h hf3.2.2.1)
  have HKW := Lib.hid (fun (i : Nat) (h : i < v.kids.length) => (show (v.kids[i]).weight ≤ 1048576 by have := Vs.weight_get i h; omega))
  have HL := Lib.hid (cbor_small hw)
  have HC := Lib.hid hk
  have HA := Lib.hid hat
  have HQ := Lib.hid (V.cbor_eq v)
  have RN := Lib.hid hf3.2.2.2.2.1
  have RE := Lib.hid hf3.2.2.2.2.2
  have q0 : (v.k == 0) = false := by rw [hkd]; rfl
  have q1 : (v.k == 1) = true := by rw [hkd]; rfl
  have q2 : (v.k == 2) = false := by rw [hkd]; rfl
  have q3 : (v.k == 3) = false := by rw [hkd]; rfl
  have q4 : (v.k == 4) = false := by rw [hkd]; rfl
  have q5 : (v.k == 5) = false := by rw [hkd]; rfl
  have q6 : (v.k == 6) = false := by rw [hkd]; rfl
  have q7 : (v.k == 7) = false := by rw [hkd]; rfl
  have q8 : (v.k == 8) = false := by rw [hkd]; rfl
  have q9 : (v.k == 9) = false := by rw [hkd]; rfl
  have HO : Hid (v.ownCbor = putHeadL 7 20) := Lib.hid (by unfold V.ownCbor; simp [hkd])
  have hon : (putHeadL 7 20).length ≤ 1048616 := by have h1 := V.ownCbor_len v; rw [HO.out] at h1; omega
  have HX := Lib.hid (leaf_cbor (leaf_kids hr (by omega)))
  have hkb : 1 ≤ v.k ∧ v.k ≤ 1 := by omega
  have hkw : IntKind.u64.wrap (19 + v.k) = 19 + v.k := by rw [IntKind.wrap_u64]; omega
  have hke : ((20 : Nat) : Int) = 19 + v.k := by omega
  have HKE := Lib.hid hke
  clear hke
  have hu0 : IntKind.u64.wrap (v.kids.length : Int) = (v.kids.length : Int) := by rw [IntKind.wrap_u64]; omega
  have hu1 : IntKind.u64.wrap ((v.kids.length : Int) / 2) = (v.kids.length : Int) / 2 := by rw [IntKind.wrap_u64]; omega
  have hs1 : IntKind.u64.wrap (v.s.size : Int) = (v.s.size : Int) := by rw [IntKind.wrap_u64]; omega
  clear hk hat hr hr3 hf hf3 hkd
  have hb0 : Below w.heap.size w (w.alloc (.cells #[.int .i64 v.k, .int .i64 v.n, .int .i64 v.e, .string v.s, .slice A v.kids.length cap] 29)) := (Below.refl _ w).alloc (Nat.le_refl _) _
  obtain ⟨w0, hw0⟩ : ∃ w0, w0 = w.alloc (.cells #[.int .i64 v.k, .int .i64 v.n, .int .i64 v.e, .string v.s, .slice A v.kids.length cap] 29) := ⟨_, rfl⟩
  have B0 : Blk w0 w.heap.size 29 #[.int .i64 v.k, .int .i64 v.n, .int .i64 v.e, .string v.s, .slice A v.kids.length cap] := by rw [hw0]; exact Blk.new w _ _
  rw [← hw0] at hb0
  have hs0 := hb0.size
  have lv := B0.lt
  have HB0 := Lib.hid hb0
  have HV0 := Lib.hid B0
  obtain ⟨p0, p1, p2, p3, p4⟩ := B0.five
  clear hb0 B0
  unfold V.agg
  go_enter Tryd.func27, Tryd.ntmps27
  go_wp2_with fail
  rw [← hw0]
  clear hw0
  have HP := specPutHead 7 20 w0 (by omega)
  rw [HKE.out] at HP
  refine HP.mono ?_
  rintro e w1 ⟨rfl, hbx⟩
  clear HP
  go_wp2_with fail
  go_ret
  exact ⟨ret_eq (by rw [HX.out, HO.out]; rfl), HB0.out.trans (hbx.mono hs0)⟩

set_option maxHeartbeats 4000000 in
theorem specCbor_2 (v : V) (hk : ∀ i (h : i < v.kids.length), SpecCborSaid v.kids[i]) (hkd : v.k = 2) : SpecCborSaid v := by
  intro A cap w hr hf hw hat
  obtain ⟨d, hr⟩ := hr
  have hr3 := (V.right_eq _ _).1 hr
  obtain ⟨hw1, hw2, hw3⟩ := V.weight_kids v
  have hl : v.kids.length ≤ 1048576 := by omega
  have hss : v.s.size ≤ 1048576 := by omega
  have hf3 := (V.fits_eq v).1 hf
  have HKR := Lib.hid (fun (i : Nat) (h : i < v.kids.length) => (Vs.right_iff _ _).1 hr3.2.2 i h)
  have HKF := Lib.hid (fun (i : Nat) (h : i < v.kids.length) => Vs.fits_get i h hf3.2.2.1)
  have HKW := Lib.hid (fun (i : Nat) (h : i < v.kids.length) => (show (v.kids[i]).weight ≤ 1048576 by have := Vs.weight_get i h; omega))
  have HL := Lib.hid (cbor_small hw)
  have HC := Lib.hid hk
  have HA := Lib.hid hat
  have HQ := Lib.hid (V.cbor_eq v)
  have RN := Lib.hid hf3.2.2.2.2.1
  have RE := Lib.hid hf3.2.2.2.2.2
  have q0 : (v.k == 0) = false := by rw [hkd]; rfl
  have q1 : (v.k == 1) = false := by rw [hkd]; rfl
  have q2 : (v.k == 2) = true := by rw [hkd]; rfl
  have q3 : (v.k == 3) = false := by rw [hkd]; rfl
  have q4 : (v.k == 4) = false := by rw [hkd]; rfl
  have q5 : (v.k == 5) = false := by rw [hkd]; rfl
  have q6 : (v.k == 6) = false := by rw [hkd]; rfl
  have q7 : (v.k == 7) = false := by rw [hkd]; rfl
  have q8 : (v.k == 8) = false := by rw [hkd]; rfl
  have q9 : (v.k == 9) = false := by rw [hkd]; rfl
  have HO : Hid (v.ownCbor = putHeadL 7 21) := Lib.hid (by unfold V.ownCbor; simp [hkd])
  have hon : (putHeadL 7 21).length ≤ 1048616 := by have h1 := V.ownCbor_len v; rw [HO.out] at h1; omega
  have HX := Lib.hid (leaf_cbor (leaf_kids hr (by omega)))
  have hkb : 2 ≤ v.k ∧ v.k ≤ 2 := by omega
  have hkw : IntKind.u64.wrap (19 + v.k) = 19 + v.k := by rw [IntKind.wrap_u64]; omega
  have hke : ((21 : Nat) : Int) = 19 + v.k := by omega
  have HKE := Lib.hid hke
  clear hke
  have hu0 : IntKind.u64.wrap (v.kids.length : Int) = (v.kids.length : Int) := by rw [IntKind.wrap_u64]; omega
  have hu1 : IntKind.u64.wrap ((v.kids.length : Int) / 2) = (v.kids.length : Int) / 2 := by rw [IntKind.wrap_u64]; omega
  have hs1 : IntKind.u64.wrap (v.s.size : Int) = (v.s.size : Int) := by rw [IntKind.wrap_u64]; omega
  clear hk hat hr hr3 hf hf3 hkd
  have hb0 : Below w.heap.size w (w.alloc (.cells #[.int .i64 v.k, .int .i64 v.n, .int .i64 v.e, .string v.s, .slice A v.kids.length cap] 29)) := (Below.refl _ w).alloc (Nat.le_refl _) _
  obtain ⟨w0, hw0⟩ : ∃ w0, w0 = w.alloc (.cells #[.int .i64 v.k, .int .i64 v.n, .int .i64 v.e, .string v.s, .slice A v.kids.length cap] 29) := ⟨_, rfl⟩
  have B0 : Blk w0 w.heap.size 29 #[.int .i64 v.k, .int .i64 v.n, .int .i64 v.e, .string v.s, .slice A v.kids.length cap] := by rw [hw0]; exact Blk.new w _ _
  rw [← hw0] at hb0
  have hs0 := hb0.size
  have lv := B0.lt
  have HB0 := Lib.hid hb0
  have HV0 := Lib.hid B0
  obtain ⟨p0, p1, p2, p3, p4⟩ := B0.five
  clear hb0 B0
  unfold V.agg
  go_enter Tryd.func27, Tryd.ntmps27
  go_wp2_with fail
  rw [← hw0]
  clear hw0
  have HP := specPutHead 7 21 w0 (by omega)
  rw [HKE.out] at HP
  refine HP.mono ?_
  rintro e w1 ⟨rfl, hbx⟩
  clear HP
  go_wp2_with fail
  go_ret
  exact ⟨ret_eq (by rw [HX.out, HO.out]; rfl), HB0.out.trans (hbx.mono hs0)⟩

set_option maxHeartbeats 4000000 in
theorem specCbor_3 (v : V) (hk : ∀ i (h : i < v.kids.length), SpecCborSaid v.kids[i]) (hkd : v.k = 3) : SpecCborSaid v := by
  intro A cap w hr hf hw hat
  obtain ⟨d, hr⟩ := hr
  have hr3 := (V.right_eq _ _).1 hr
  obtain ⟨hw1, hw2, hw3⟩ := V.weight_kids v
  have hl : v.kids.length ≤ 1048576 := by omega
  have hss : v.s.size ≤ 1048576 := by omega
  have hf3 := (V.fits_eq v).1 hf
  have HKR := Lib.hid (fun (i : Nat) (h : i < v.kids.length) => (Vs.right_iff _ _).1 hr3.2.2 i h)
  have HKF := Lib.hid (fun (i : Nat) (h : i < v.kids.length) => Vs.fits_get i h hf3.2.2.1)
  have HKW := Lib.hid (fun (i : Nat) (h : i < v.kids.length) => (show (v.kids[i]).weight ≤ 1048576 by have := Vs.weight_get i h; omega))
  have HL := Lib.hid (cbor_small hw)
  have HC := Lib.hid hk
  have HA := Lib.hid hat
  have HQ := Lib.hid (V.cbor_eq v)
  have RN := Lib.hid hf3.2.2.2.2.1
  have RE := Lib.hid hf3.2.2.2.2.2
  have q0 : (v.k == 0) = false := by rw [hkd]; rfl
  have q1 : (v.k == 1) = false := by rw [hkd]; rfl
  have q2 : (v.k == 2) = false := by rw [hkd]; rfl
  have q3 : (v.k == 3) = true := by rw [hkd]; rfl
  have q4 : (v.k == 4) = false := by rw [hkd]; rfl
  have q5 : (v.k == 5) = false := by rw [hkd]; rfl
  have q6 : (v.k == 6) = false := by rw [hkd]; rfl
  have q7 : (v.k == 7) = false := by rw [hkd]; rfl
  have q8 : (v.k == 8) = false := by rw [hkd]; rfl
  have q9 : (v.k == 9) = false := by rw [hkd]; rfl
  have HO : Hid (v.ownCbor = cborInt v.n) := Lib.hid (by unfold V.ownCbor; simp [hkd])
  have hon : (cborInt v.n).length ≤ 1048616 := by have h1 := V.ownCbor_len v; rw [HO.out] at h1; omega
  have HX := Lib.hid (leaf_cbor (leaf_kids hr (by omega)))
  have hu0 : IntKind.u64.wrap (v.kids.length : Int) = (v.kids.length : Int) := by rw [IntKind.wrap_u64]; omega
  have hu1 : IntKind.u64.wrap ((v.kids.length : Int) / 2) = (v.kids.length : Int) / 2 := by rw [IntKind.wrap_u64]; omega
  have hs1 : IntKind.u64.wrap (v.s.size : Int) = (v.s.size : Int) := by rw [IntKind.wrap_u64]; omega
  clear hk hat hr hr3 hf hf3 hkd
  have hb0 : Below w.heap.size w (w.alloc (.cells #[.int .i64 v.k, .int .i64 v.n, .int .i64 v.e, .string v.s, .slice A v.kids.length cap] 29)) := (Below.refl _ w).alloc (Nat.le_refl _) _
  obtain ⟨w0, hw0⟩ : ∃ w0, w0 = w.alloc (.cells #[.int .i64 v.k, .int .i64 v.n, .int .i64 v.e, .string v.s, .slice A v.kids.length cap] 29) := ⟨_, rfl⟩
  have B0 : Blk w0 w.heap.size 29 #[.int .i64 v.k, .int .i64 v.n, .int .i64 v.e, .string v.s, .slice A v.kids.length cap] := by rw [hw0]; exact Blk.new w _ _
  rw [← hw0] at hb0
  have hs0 := hb0.size
  have lv := B0.lt
  have HB0 := Lib.hid hb0
  have HV0 := Lib.hid B0
  obtain ⟨p0, p1, p2, p3, p4⟩ := B0.five
  clear hb0 B0
  unfold V.agg
  go_enter Tryd.func27, Tryd.ntmps27
  go_wp2_with fail
  rw [← hw0]
  clear hw0
  refine (specNum v.n w0 RN.out).mono ?_
  rintro e w1 ⟨rfl, hbx⟩
  go_wp2_with fail
  go_ret
  exact ⟨ret_eq (by rw [HX.out, HO.out]; rfl), HB0.out.trans (hbx.mono hs0)⟩

set_option maxHeartbeats 4000000 in
theorem specCbor_4 (v : V) (hk : ∀ i (h : i < v.kids.length), SpecCborSaid v.kids[i]) (hkd : v.k = 4) : SpecCborSaid v := by
  intro A cap w hr hf hw hat
  obtain ⟨d, hr⟩ := hr
  have hr3 := (V.right_eq _ _).1 hr
  obtain ⟨hw1, hw2, hw3⟩ := V.weight_kids v
  have hl : v.kids.length ≤ 1048576 := by omega
  have hss : v.s.size ≤ 1048576 := by omega
  have hf3 := (V.fits_eq v).1 hf
  have HKR := Lib.hid (fun (i : Nat) (h : i < v.kids.length) => (Vs.right_iff _ _).1 hr3.2.2 i h)
  have HKF := Lib.hid (fun (i : Nat) (h : i < v.kids.length) => Vs.fits_get i h hf3.2.2.1)
  have HKW := Lib.hid (fun (i : Nat) (h : i < v.kids.length) => (show (v.kids[i]).weight ≤ 1048576 by have := Vs.weight_get i h; omega))
  have HL := Lib.hid (cbor_small hw)
  have HC := Lib.hid hk
  have HA := Lib.hid hat
  have HQ := Lib.hid (V.cbor_eq v)
  have RN := Lib.hid hf3.2.2.2.2.1
  have RE := Lib.hid hf3.2.2.2.2.2
  have q0 : (v.k == 0) = false := by rw [hkd]; rfl
  have q1 : (v.k == 1) = false := by rw [hkd]; rfl
  have q2 : (v.k == 2) = false := by rw [hkd]; rfl
  have q3 : (v.k == 3) = false := by rw [hkd]; rfl
  have q4 : (v.k == 4) = true := by rw [hkd]; rfl
  have q5 : (v.k == 5) = false := by rw [hkd]; rfl
  have q6 : (v.k == 6) = false := by rw [hkd]; rfl
  have q7 : (v.k == 7) = false := by rw [hkd]; rfl
  have q8 : (v.k == 8) = false := by rw [hkd]; rfl
  have q9 : (v.k == 9) = false := by rw [hkd]; rfl
  have HO : Hid (v.ownCbor = putHeadL 6 4 ++ putHeadL 4 2 ++ cborInt v.e ++ cborInt v.n) := Lib.hid (by unfold V.ownCbor; simp [hkd])
  have hon : (putHeadL 6 4 ++ putHeadL 4 2 ++ cborInt v.e ++ cborInt v.n).length ≤ 1048616 := by have h1 := V.ownCbor_len v; rw [HO.out] at h1; omega
  have HX := Lib.hid (leaf_cbor (leaf_kids hr (by omega)))
  have hu0 : IntKind.u64.wrap (v.kids.length : Int) = (v.kids.length : Int) := by rw [IntKind.wrap_u64]; omega
  have hu1 : IntKind.u64.wrap ((v.kids.length : Int) / 2) = (v.kids.length : Int) / 2 := by rw [IntKind.wrap_u64]; omega
  have hs1 : IntKind.u64.wrap (v.s.size : Int) = (v.s.size : Int) := by rw [IntKind.wrap_u64]; omega
  clear hk hat hr hr3 hf hf3 hkd
  have hb0 : Below w.heap.size w (w.alloc (.cells #[.int .i64 v.k, .int .i64 v.n, .int .i64 v.e, .string v.s, .slice A v.kids.length cap] 29)) := (Below.refl _ w).alloc (Nat.le_refl _) _
  obtain ⟨w0, hw0⟩ : ∃ w0, w0 = w.alloc (.cells #[.int .i64 v.k, .int .i64 v.n, .int .i64 v.e, .string v.s, .slice A v.kids.length cap] 29) := ⟨_, rfl⟩
  have B0 : Blk w0 w.heap.size 29 #[.int .i64 v.k, .int .i64 v.n, .int .i64 v.e, .string v.s, .slice A v.kids.length cap] := by rw [hw0]; exact Blk.new w _ _
  rw [← hw0] at hb0
  have hs0 := hb0.size
  have lv := B0.lt
  have HB0 := Lib.hid hb0
  have HV0 := Lib.hid B0
  obtain ⟨p0, p1, p2, p3, p4⟩ := B0.five
  clear hb0 B0
  unfold V.agg
  go_enter Tryd.func27, Tryd.ntmps27
  go_wp2_with fail
  rw [← hw0]
  clear hw0
  have keep0 : ∀ w' : World, Below w0.heap.size w0 w' → w'.cell? ⟨w.heap.size, 1, none⟩ = some (.int .i64 v.n) ∧ w'.cell? ⟨w.heap.size, 2, none⟩ = some (.int .i64 v.e) := fun w' hb => ⟨(HV0.out.below hb lv).cell 1, (HV0.out.below hb lv).cell 2⟩
  have KE := Lib.hid keep0
  have hbr : Below w0.heap.size w0 w0 := Below.refl _ _
  clear keep0 p0 p3 p4
  have HJ0 : v.cbor = putHeadL 6 4 ++ (putHeadL 4 2 ++ (cborInt v.e ++ cborInt v.n)) := by rw [HX.out, HO.out]; simp only [List.append_assoc]
  have hx1 := putHeadL_len 6 4
  have hx2 := putHeadL_len 4 2
  have hx3 := cborInt_len v.e
  have hx4 := cborInt_len v.n
  obtain ⟨L1, h1⟩ : ∃ L, putHeadL 6 4 = L := ⟨_, rfl⟩
  obtain ⟨L2, h2⟩ : ∃ L, putHeadL 4 2 = L := ⟨_, rfl⟩
  obtain ⟨L3, h3⟩ : ∃ L, cborInt v.e = L := ⟨_, rfl⟩
  obtain ⟨L4, h4⟩ : ∃ L, cborInt v.n = L := ⟨_, rfl⟩
  rw [h1, h2, h3, h4] at HJ0
  rw [h1] at hx1
  rw [h2] at hx2
  rw [h3] at hx3
  rw [h4] at hx4
  have HJ := Lib.hid HJ0
  have H1 := Lib.hid h1
  have H2 := Lib.hid h2
  have H3 := Lib.hid h3
  have H4 := Lib.hid h4
  have hadd1 : ∀ W : World, (Op.stringOp .add (str L1) (str L2)).run Tryd.prog W = .ok (.string (str (L1 ++ L2))) W := fun W => str_sum L1 L2 (by omega) W
  have hadd2 : ∀ W : World, (Op.stringOp .add (str (L1 ++ L2)) (str L3)).run Tryd.prog W = .ok (.string (str (L1 ++ (L2 ++ L3)))) W := fun W => by
    have h := str_sum (P := Tryd.prog) (L1 ++ L2) L3 (by rw [List.length_append]; omega) W
    rwa [List.append_assoc] at h
  have hadd3 : ∀ W : World, (Op.stringOp .add (str (L1 ++ (L2 ++ L3))) (str L4)).run Tryd.prog W = .ok (.string (str (L1 ++ (L2 ++ (L3 ++ L4))))) W := fun W => by
    have h := str_sum (P := Tryd.prog) (L1 ++ (L2 ++ L3)) L4 (by rw [List.length_append, List.length_append]; omega) W
    rwa [List.append_assoc, List.append_assoc] at h
  clear hx1 hx2 hx3 hx4 h1 h2 h3 h4 hon HJ0
  go_region_held3 (fun w' => w'.cell? ⟨w.heap.size, 1, none⟩ = some (.int .i64 v.n) ∧ w'.cell? ⟨w.heap.size, 2, none⟩ = some (.int .i64 v.e)) (first | exact KE.out _ hbx4 | exact KE.out _ hbx3 | exact KE.out _ hbx2 | exact KE.out _ hbx1 | exact KE.out _ hbr.drew | exact KE.out _ hbr)
    (first
    | (have hgate := hbx3; clear hgate; go_at_call 43; refine (specNum v.n w3 RN.out).mono ?_; rintro e w4 ⟨rfl, hbx'⟩; have hbx4 := hbx3.trans (hbx'.mono hbx3.size); rw [H4.out])
    | (have hgate := hbx2; clear hgate; go_at_call 43; refine (specNum v.e w2 RE.out).mono ?_; rintro e w3 ⟨rfl, hbx'⟩; have hbx3 := hbx2.trans (hbx'.mono hbx2.size); rw [H3.out])
    | (have hgate := hbx1; clear hgate; go_at_call 42; refine (specPutHead 4 2 w1 (by omega)).mono ?_; rintro e w2 ⟨rfl, hbx'⟩; have hbx2 := hbx1.trans (hbx'.mono hbx1.size); rw [H2.out])
    | (go_at_call 42; refine (specPutHead 6 4 w0.drew (by omega)).mono ?_; rintro e w1 ⟨rfl, hbx'⟩; have hbx1 : Below w0.heap.size w0 w1 := hbr.drew.trans hbx'; rw [H1.out]))
  go_wp2_with fail
  go_ret
  exact ⟨ret_eq (by rw [HJ.out]; rfl), HB0.out.trans (hbx4.mono hs0)⟩

set_option maxHeartbeats 4000000 in
theorem specCbor_5 (v : V) (hk : ∀ i (h : i < v.kids.length), SpecCborSaid v.kids[i]) (hkd : v.k = 5) : SpecCborSaid v := by
  intro A cap w hr hf hw hat
  obtain ⟨d, hr⟩ := hr
  have hr3 := (V.right_eq _ _).1 hr
  obtain ⟨hw1, hw2, hw3⟩ := V.weight_kids v
  have hl : v.kids.length ≤ 1048576 := by omega
  have hss : v.s.size ≤ 1048576 := by omega
  have hf3 := (V.fits_eq v).1 hf
  have HKR := Lib.hid (fun (i : Nat) (h : i < v.kids.length) => (Vs.right_iff _ _).1 hr3.2.2 i h)
  have HKF := Lib.hid (fun (i : Nat) (h : i < v.kids.length) => Vs.fits_get i h hf3.2.2.1)
  have HKW := Lib.hid (fun (i : Nat) (h : i < v.kids.length) => (show (v.kids[i]).weight ≤ 1048576 by have := Vs.weight_get i h; omega))
  have HL := Lib.hid (cbor_small hw)
  have HC := Lib.hid hk
  have HA := Lib.hid hat
  have HQ := Lib.hid (V.cbor_eq v)
  have RN := Lib.hid hf3.2.2.2.2.1
  have RE := Lib.hid hf3.2.2.2.2.2
  have q0 : (v.k == 0) = false := by rw [hkd]; rfl
  have q1 : (v.k == 1) = false := by rw [hkd]; rfl
  have q2 : (v.k == 2) = false := by rw [hkd]; rfl
  have q3 : (v.k == 3) = false := by rw [hkd]; rfl
  have q4 : (v.k == 4) = false := by rw [hkd]; rfl
  have q5 : (v.k == 5) = true := by rw [hkd]; rfl
  have q6 : (v.k == 6) = false := by rw [hkd]; rfl
  have q7 : (v.k == 7) = false := by rw [hkd]; rfl
  have q8 : (v.k == 8) = false := by rw [hkd]; rfl
  have q9 : (v.k == 9) = false := by rw [hkd]; rfl
  have HO : Hid (v.ownCbor = putHeadL 3 v.s.size ++ v.s.data.toList) := Lib.hid (by unfold V.ownCbor; simp [hkd])
  have hon : (putHeadL 3 v.s.size ++ v.s.data.toList).length ≤ 1048616 := by have h1 := V.ownCbor_len v; rw [HO.out] at h1; omega
  have HX := Lib.hid (leaf_cbor (leaf_kids hr (by omega)))
  have hu0 : IntKind.u64.wrap (v.kids.length : Int) = (v.kids.length : Int) := by rw [IntKind.wrap_u64]; omega
  have hu1 : IntKind.u64.wrap ((v.kids.length : Int) / 2) = (v.kids.length : Int) / 2 := by rw [IntKind.wrap_u64]; omega
  have hs1 : IntKind.u64.wrap (v.s.size : Int) = (v.s.size : Int) := by rw [IntKind.wrap_u64]; omega
  clear hk hat hr hr3 hf hf3 hkd
  have hb0 : Below w.heap.size w (w.alloc (.cells #[.int .i64 v.k, .int .i64 v.n, .int .i64 v.e, .string v.s, .slice A v.kids.length cap] 29)) := (Below.refl _ w).alloc (Nat.le_refl _) _
  obtain ⟨w0, hw0⟩ : ∃ w0, w0 = w.alloc (.cells #[.int .i64 v.k, .int .i64 v.n, .int .i64 v.e, .string v.s, .slice A v.kids.length cap] 29) := ⟨_, rfl⟩
  have B0 : Blk w0 w.heap.size 29 #[.int .i64 v.k, .int .i64 v.n, .int .i64 v.e, .string v.s, .slice A v.kids.length cap] := by rw [hw0]; exact Blk.new w _ _
  rw [← hw0] at hb0
  have hs0 := hb0.size
  have lv := B0.lt
  have HB0 := Lib.hid hb0
  have HV0 := Lib.hid B0
  obtain ⟨p0, p1, p2, p3, p4⟩ := B0.five
  clear hb0 B0
  unfold V.agg
  go_enter Tryd.func27, Tryd.ntmps27
  go_wp2_with fail
  rw [← hw0]
  clear hw0
  have keep0 : ∀ w' : World, Below w0.heap.size w0 w' → w'.cell? ⟨w.heap.size, 3, none⟩ = some (.string v.s) := fun w' hb => (HV0.out.below hb lv).cell 3
  have KE := Lib.hid keep0
  have hbr : Below w0.heap.size w0 w0 := Below.refl _ _
  clear keep0 p0 p1 p2 p4
  have hadd : ∀ W : World, (Op.stringOp .add (str (putHeadL 3 v.s.size)) v.s).run Tryd.prog W = .ok (.string (str (putHeadL 3 v.s.size ++ v.s.data.toList))) W := fun W => by
    have h := str_sum (P := Tryd.prog) (putHeadL 3 v.s.size) v.s.data.toList (by have h1 := putHeadL_len 3 v.s.size; have h2 : v.s.data.toList.length = v.s.size := rfl; omega) W
    rwa [show str v.s.data.toList = v.s by simp [str]] at h
  go_region_held3 (fun w' => w'.cell? ⟨w.heap.size, 3, none⟩ = some (.string v.s)) (first | exact KE.out _ hbx | exact KE.out _ hbr.drew | exact KE.out _ hbr)
    (first | (go_at_call 42; refine (specPutHead 3 v.s.size w0.drew (by omega)).mono ?_; rintro e w1 ⟨rfl, hbx'⟩; have hbx : Below w0.heap.size w0 w1 := hbr.drew.trans hbx'))
  clear KE hadd
  go_wp2_with fail
  go_ret
  exact ⟨ret_eq (by rw [HX.out, HO.out]; rfl), HB0.out.trans (hbx.mono hs0)⟩

set_option maxHeartbeats 4000000 in
theorem specCbor_6 (v : V) (hk : ∀ i (h : i < v.kids.length), SpecCborSaid v.kids[i]) (hkd : v.k = 6) : SpecCborSaid v := by
  intro A cap w hr hf hw hat
  obtain ⟨d, hr⟩ := hr
  have hr3 := (V.right_eq _ _).1 hr
  obtain ⟨hw1, hw2, hw3⟩ := V.weight_kids v
  have hl : v.kids.length ≤ 1048576 := by omega
  have hss : v.s.size ≤ 1048576 := by omega
  have hf3 := (V.fits_eq v).1 hf
  have HKR := Lib.hid (fun (i : Nat) (h : i < v.kids.length) => (Vs.right_iff _ _).1 hr3.2.2 i h)
  have HKF := Lib.hid (fun (i : Nat) (h : i < v.kids.length) => Vs.fits_get i h hf3.2.2.1)
  have HKW := Lib.hid (fun (i : Nat) (h : i < v.kids.length) => (show (v.kids[i]).weight ≤ 1048576 by have := Vs.weight_get i h; omega))
  have HL := Lib.hid (cbor_small hw)
  have HC := Lib.hid hk
  have HA := Lib.hid hat
  have HQ := Lib.hid (V.cbor_eq v)
  have RN := Lib.hid hf3.2.2.2.2.1
  have RE := Lib.hid hf3.2.2.2.2.2
  have q0 : (v.k == 0) = false := by rw [hkd]; rfl
  have q1 : (v.k == 1) = false := by rw [hkd]; rfl
  have q2 : (v.k == 2) = false := by rw [hkd]; rfl
  have q3 : (v.k == 3) = false := by rw [hkd]; rfl
  have q4 : (v.k == 4) = false := by rw [hkd]; rfl
  have q5 : (v.k == 5) = false := by rw [hkd]; rfl
  have q6 : (v.k == 6) = true := by rw [hkd]; rfl
  have q7 : (v.k == 7) = false := by rw [hkd]; rfl
  have q8 : (v.k == 8) = false := by rw [hkd]; rfl
  have q9 : (v.k == 9) = false := by rw [hkd]; rfl
  have HO : Hid (v.ownCbor = putHeadL 2 v.s.size ++ v.s.data.toList) := Lib.hid (by unfold V.ownCbor; simp [hkd])
  have hon : (putHeadL 2 v.s.size ++ v.s.data.toList).length ≤ 1048616 := by have h1 := V.ownCbor_len v; rw [HO.out] at h1; omega
  have HX := Lib.hid (leaf_cbor (leaf_kids hr (by omega)))
  have hu0 : IntKind.u64.wrap (v.kids.length : Int) = (v.kids.length : Int) := by rw [IntKind.wrap_u64]; omega
  have hu1 : IntKind.u64.wrap ((v.kids.length : Int) / 2) = (v.kids.length : Int) / 2 := by rw [IntKind.wrap_u64]; omega
  have hs1 : IntKind.u64.wrap (v.s.size : Int) = (v.s.size : Int) := by rw [IntKind.wrap_u64]; omega
  clear hk hat hr hr3 hf hf3 hkd
  have hb0 : Below w.heap.size w (w.alloc (.cells #[.int .i64 v.k, .int .i64 v.n, .int .i64 v.e, .string v.s, .slice A v.kids.length cap] 29)) := (Below.refl _ w).alloc (Nat.le_refl _) _
  obtain ⟨w0, hw0⟩ : ∃ w0, w0 = w.alloc (.cells #[.int .i64 v.k, .int .i64 v.n, .int .i64 v.e, .string v.s, .slice A v.kids.length cap] 29) := ⟨_, rfl⟩
  have B0 : Blk w0 w.heap.size 29 #[.int .i64 v.k, .int .i64 v.n, .int .i64 v.e, .string v.s, .slice A v.kids.length cap] := by rw [hw0]; exact Blk.new w _ _
  rw [← hw0] at hb0
  have hs0 := hb0.size
  have lv := B0.lt
  have HB0 := Lib.hid hb0
  have HV0 := Lib.hid B0
  obtain ⟨p0, p1, p2, p3, p4⟩ := B0.five
  clear hb0 B0
  unfold V.agg
  go_enter Tryd.func27, Tryd.ntmps27
  go_wp2_with fail
  rw [← hw0]
  clear hw0
  have keep0 : ∀ w' : World, Below w0.heap.size w0 w' → w'.cell? ⟨w.heap.size, 3, none⟩ = some (.string v.s) := fun w' hb => (HV0.out.below hb lv).cell 3
  have KE := Lib.hid keep0
  have hbr : Below w0.heap.size w0 w0 := Below.refl _ _
  clear keep0 p0 p1 p2 p4
  have hadd : ∀ W : World, (Op.stringOp .add (str (putHeadL 2 v.s.size)) v.s).run Tryd.prog W = .ok (.string (str (putHeadL 2 v.s.size ++ v.s.data.toList))) W := fun W => by
    have h := str_sum (P := Tryd.prog) (putHeadL 2 v.s.size) v.s.data.toList (by have h1 := putHeadL_len 2 v.s.size; have h2 : v.s.data.toList.length = v.s.size := rfl; omega) W
    rwa [show str v.s.data.toList = v.s by simp [str]] at h
  go_region_held3 (fun w' => w'.cell? ⟨w.heap.size, 3, none⟩ = some (.string v.s)) (first | exact KE.out _ hbx | exact KE.out _ hbr.drew | exact KE.out _ hbr)
    (first | (go_at_call 42; refine (specPutHead 2 v.s.size w0.drew (by omega)).mono ?_; rintro e w1 ⟨rfl, hbx'⟩; have hbx : Below w0.heap.size w0 w1 := hbr.drew.trans hbx'))
  clear KE hadd
  go_wp2_with fail
  go_ret
  exact ⟨ret_eq (by rw [HX.out, HO.out]; rfl), HB0.out.trans (hbx.mono hs0)⟩

set_option maxHeartbeats 4000000 in
theorem specCbor_7 (v : V) (hk : ∀ i (h : i < v.kids.length), SpecCborSaid v.kids[i]) (hkd : v.k = 7) : SpecCborSaid v := by
  intro A cap w hr hf hw hat
  obtain ⟨d, hr⟩ := hr
  have hr3 := (V.right_eq _ _).1 hr
  obtain ⟨hw1, hw2, hw3⟩ := V.weight_kids v
  have hl : v.kids.length ≤ 1048576 := by omega
  have hss : v.s.size ≤ 1048576 := by omega
  have hf3 := (V.fits_eq v).1 hf
  have HKR := Lib.hid (fun (i : Nat) (h : i < v.kids.length) => (Vs.right_iff _ _).1 hr3.2.2 i h)
  have HKF := Lib.hid (fun (i : Nat) (h : i < v.kids.length) => Vs.fits_get i h hf3.2.2.1)
  have HKW := Lib.hid (fun (i : Nat) (h : i < v.kids.length) => (show (v.kids[i]).weight ≤ 1048576 by have := Vs.weight_get i h; omega))
  have HL := Lib.hid (cbor_small hw)
  have HC := Lib.hid hk
  have HA := Lib.hid hat
  have HQ := Lib.hid (V.cbor_eq v)
  have RN := Lib.hid hf3.2.2.2.2.1
  have RE := Lib.hid hf3.2.2.2.2.2
  have q0 : (v.k == 0) = false := by rw [hkd]; rfl
  have q1 : (v.k == 1) = false := by rw [hkd]; rfl
  have q2 : (v.k == 2) = false := by rw [hkd]; rfl
  have q3 : (v.k == 3) = false := by rw [hkd]; rfl
  have q4 : (v.k == 4) = false := by rw [hkd]; rfl
  have q5 : (v.k == 5) = false := by rw [hkd]; rfl
  have q6 : (v.k == 6) = false := by rw [hkd]; rfl
  have q7 : (v.k == 7) = true := by rw [hkd]; rfl
  have q8 : (v.k == 8) = false := by rw [hkd]; rfl
  have q9 : (v.k == 9) = false := by rw [hkd]; rfl
  have HO : Hid (v.ownCbor = putHeadL 4 v.kids.length) := Lib.hid (by unfold V.ownCbor; simp [hkd])
  have hon : (putHeadL 4 v.kids.length).length ≤ 1048616 := by have h1 := V.ownCbor_len v; rw [HO.out] at h1; omega
  have hu0 : IntKind.u64.wrap (v.kids.length : Int) = (v.kids.length : Int) := by rw [IntKind.wrap_u64]; omega
  have hu1 : IntKind.u64.wrap ((v.kids.length : Int) / 2) = (v.kids.length : Int) / 2 := by rw [IntKind.wrap_u64]; omega
  have hs1 : IntKind.u64.wrap (v.s.size : Int) = (v.s.size : Int) := by rw [IntKind.wrap_u64]; omega
  clear hk hat hr hr3 hf hf3 hkd
  have hb0 : Below w.heap.size w (w.alloc (.cells #[.int .i64 v.k, .int .i64 v.n, .int .i64 v.e, .string v.s, .slice A v.kids.length cap] 29)) := (Below.refl _ w).alloc (Nat.le_refl _) _
  obtain ⟨w0, hw0⟩ : ∃ w0, w0 = w.alloc (.cells #[.int .i64 v.k, .int .i64 v.n, .int .i64 v.e, .string v.s, .slice A v.kids.length cap] 29) := ⟨_, rfl⟩
  have B0 : Blk w0 w.heap.size 29 #[.int .i64 v.k, .int .i64 v.n, .int .i64 v.e, .string v.s, .slice A v.kids.length cap] := by rw [hw0]; exact Blk.new w _ _
  rw [← hw0] at hb0
  have hs0 := hb0.size
  have lv := B0.lt
  have HB0 := Lib.hid hb0
  have HV0 := Lib.hid B0
  obtain ⟨p0, p1, p2, p3, p4⟩ := B0.five
  clear hb0 B0
  unfold V.agg
  go_enter Tryd.func27, Tryd.ntmps27
  go_wp2_with fail
  rw [← hw0]
  clear hw0
  have HP := specPutHead 4 v.kids.length w0 (by omega)
  refine HP.mono ?_
  rintro e w1 ⟨rfl, hbx⟩
  clear HP
  have B2 := HV0.out.below hbx lv
  have Bw : Below w.heap.size w w1 := HB0.out.trans (hbx.mono hs0)
  rw [← HO.out]
  have HB2 := Lib.hid B2
  have HBw := Lib.hid Bw
  clear p0 p1 p2 p3 p4
  obtain ⟨p0, p1, p2, p3, p4⟩ := B2.five
  clear B2 Bw hbx
  go_wp2_with fail
  go_loopw [3, 4] (fun z i wr => ∃ j : Nat, j ≤ v.kids.length ∧ z = .string (str (v.ownCbor ++ Vs.cbor (v.kids.take j))) ∧ i = .int .i64 j ∧ Blk wr w.heap.size 29 #[.int .i64 v.k, .int .i64 v.n, .int .i64 v.e, .string v.s, .slice A v.kids.length cap] ∧ Below w.heap.size w wr) (fun _ i _ => v.kids.length - (intOf i).toNat)
  case atStart => exact ⟨0, Nat.zero_le _, by simp [Vs.cbor], rfl, HB2.out, HBw.out⟩
  case round =>
    obtain ⟨j, hj, rfl, rfl, B, hb⟩ := hrel
    have HB := Lib.hid B
    have b4 : wr.cell? ⟨w.heap.size, 4, none⟩ = some (.slice A v.kids.length cap) := B.cell 4
    clear p0 p1 p2 p3 p4
    by_cases hlt : j < v.kids.length
    · obtain ⟨bb, off, A', cap', rfl, g1, g2, g3, ⟨c0, c1, c2, c3, c4⟩, g5⟩ := Vs.at_get j hlt (Vs.at_below HA.out hb (Nat.le_refl _))
      have G5 := Lib.hid g5
      clear g5
      have hkl := kid_len hlt
      have HJ := Lib.hid (kid_cbor v j hlt)
      have hl1 := size_str (v.ownCbor ++ Vs.cbor (v.kids.take j))
      have hl2 := size_str (v.kids[j]).cbor
      obtain ⟨sa, hsa⟩ : ∃ sa, str (v.ownCbor ++ Vs.cbor (v.kids.take j)) = sa := ⟨_, rfl⟩
      rw [hsa] at HJ hl1
      rw [hsa]
      have hsum : sa.size + (str (v.kids[j]).cbor).size ≤ 50000000 := by have := HL.out; omega
      clear hsa hkl hl1 hl2
      go_wp2_with fail
      refine (HC.out j hlt A' cap' _ ⟨_, HKR.out j hlt⟩ (HKF.out j hlt) (HKW.out j hlt) (Vs.at_more (Nat.le_refl _) hb.size _ _ G5.out)).mono ?_
      rintro e w3 ⟨rfl, hb3⟩
      have hbw : Below w.heap.size w w3 := hb.trans (hb3.mono hb.size)
      have B3 := B.below hb3 B.lt
      obtain ⟨sb, hsb⟩ : ∃ sb, str (v.kids[j]).cbor = sb := ⟨_, rfl⟩
      rw [hsb] at hsum HJ
      rw [hsb]
      clear hsb c0 c1 c2 c3 c4 b4
      go_wp2_with fail
      go_roundw
      case rel => exact ⟨j + 1, by omega, congrArg Value.string HJ.out, by go_num, B3, hbw⟩
      case measure => simp [intOf]; omega
    · obtain rfl : j = v.kids.length := by omega
      have HE : Hid (str (v.ownCbor ++ Vs.cbor (v.kids.take v.kids.length)) = str v.cbor) := Lib.hid (by rw [List.take_length, ← HQ.out])
      rw [HE.out]
      go_wp2_with fail
      go_ret
      exact ⟨rfl, hb⟩

set_option maxHeartbeats 4000000 in
theorem specCbor_8 (v : V) (hk : ∀ i (h : i < v.kids.length), SpecCborSaid v.kids[i]) (hkd : v.k = 8) : SpecCborSaid v := by
  intro A cap w hr hf hw hat
  obtain ⟨d, hr⟩ := hr
  have hr3 := (V.right_eq _ _).1 hr
  obtain ⟨hw1, hw2, hw3⟩ := V.weight_kids v
  have hl : v.kids.length ≤ 1048576 := by omega
  have hss : v.s.size ≤ 1048576 := by omega
  have hf3 := (V.fits_eq v).1 hf
  have HKR := Lib.hid (fun (i : Nat) (h : i < v.kids.length) => (Vs.right_iff _ _).1 hr3.2.2 i h)
  have HKF := Lib.hid (fun (i : Nat) (h : i < v.kids.length) => Vs.fits_get i h hf3.2.2.1)
  have HKW := Lib.hid (fun (i : Nat) (h : i < v.kids.length) => (show (v.kids[i]).weight ≤ 1048576 by have := Vs.weight_get i h; omega))
  have HL := Lib.hid (cbor_small hw)
  have HC := Lib.hid hk
  have HA := Lib.hid hat
  have HQ := Lib.hid (V.cbor_eq v)
  have RN := Lib.hid hf3.2.2.2.2.1
  have RE := Lib.hid hf3.2.2.2.2.2
  have q0 : (v.k == 0) = false := by rw [hkd]; rfl
  have q1 : (v.k == 1) = false := by rw [hkd]; rfl
  have q2 : (v.k == 2) = false := by rw [hkd]; rfl
  have q3 : (v.k == 3) = false := by rw [hkd]; rfl
  have q4 : (v.k == 4) = false := by rw [hkd]; rfl
  have q5 : (v.k == 5) = false := by rw [hkd]; rfl
  have q6 : (v.k == 6) = false := by rw [hkd]; rfl
  have q7 : (v.k == 7) = false := by rw [hkd]; rfl
  have q8 : (v.k == 8) = true := by rw [hkd]; rfl
  have q9 : (v.k == 9) = false := by rw [hkd]; rfl
  have HO : Hid (v.ownCbor = putHeadL 5 (v.kids.length / 2)) := Lib.hid (by unfold V.ownCbor; simp [hkd])
  have hon : (putHeadL 5 (v.kids.length / 2)).length ≤ 1048616 := by have h1 := V.ownCbor_len v; rw [HO.out] at h1; omega
  have hu0 : IntKind.u64.wrap (v.kids.length : Int) = (v.kids.length : Int) := by rw [IntKind.wrap_u64]; omega
  have hu1 : IntKind.u64.wrap ((v.kids.length : Int) / 2) = (v.kids.length : Int) / 2 := by rw [IntKind.wrap_u64]; omega
  have hs1 : IntKind.u64.wrap (v.s.size : Int) = (v.s.size : Int) := by rw [IntKind.wrap_u64]; omega
  clear hk hat hr hr3 hf hf3 hkd
  have hb0 : Below w.heap.size w (w.alloc (.cells #[.int .i64 v.k, .int .i64 v.n, .int .i64 v.e, .string v.s, .slice A v.kids.length cap] 29)) := (Below.refl _ w).alloc (Nat.le_refl _) _
  obtain ⟨w0, hw0⟩ : ∃ w0, w0 = w.alloc (.cells #[.int .i64 v.k, .int .i64 v.n, .int .i64 v.e, .string v.s, .slice A v.kids.length cap] 29) := ⟨_, rfl⟩
  have B0 : Blk w0 w.heap.size 29 #[.int .i64 v.k, .int .i64 v.n, .int .i64 v.e, .string v.s, .slice A v.kids.length cap] := by rw [hw0]; exact Blk.new w _ _
  rw [← hw0] at hb0
  have hs0 := hb0.size
  have lv := B0.lt
  have HB0 := Lib.hid hb0
  have HV0 := Lib.hid B0
  obtain ⟨p0, p1, p2, p3, p4⟩ := B0.five
  clear hb0 B0
  unfold V.agg
  go_enter Tryd.func27, Tryd.ntmps27
  go_wp2_with fail
  rw [← hw0]
  clear hw0
  have HP := specPutHead 5 (v.kids.length / 2) w0 (by omega)
  rw [show ((v.kids.length / 2 : Nat) : Int) = (v.kids.length : Int) / 2 by omega] at HP
  refine HP.mono ?_
  rintro e w1 ⟨rfl, hbx⟩
  clear HP
  have B2 := HV0.out.below hbx lv
  have Bw : Below w.heap.size w w1 := HB0.out.trans (hbx.mono hs0)
  rw [← HO.out]
  have HB2 := Lib.hid B2
  have HBw := Lib.hid Bw
  clear p0 p1 p2 p3 p4
  obtain ⟨p0, p1, p2, p3, p4⟩ := B2.five
  clear B2 Bw hbx
  go_wp2_with fail
  go_loopw [3, 4] (fun z i wr => ∃ j : Nat, j ≤ v.kids.length ∧ z = .string (str (v.ownCbor ++ Vs.cbor (v.kids.take j))) ∧ i = .int .i64 j ∧ Blk wr w.heap.size 29 #[.int .i64 v.k, .int .i64 v.n, .int .i64 v.e, .string v.s, .slice A v.kids.length cap] ∧ Below w.heap.size w wr) (fun _ i _ => v.kids.length - (intOf i).toNat)
  case atStart => exact ⟨0, Nat.zero_le _, by simp [Vs.cbor], rfl, HB2.out, HBw.out⟩
  case round =>
    obtain ⟨j, hj, rfl, rfl, B, hb⟩ := hrel
    have HB := Lib.hid B
    have b4 : wr.cell? ⟨w.heap.size, 4, none⟩ = some (.slice A v.kids.length cap) := B.cell 4
    clear p0 p1 p2 p3 p4
    by_cases hlt : j < v.kids.length
    · obtain ⟨bb, off, A', cap', rfl, g1, g2, g3, ⟨c0, c1, c2, c3, c4⟩, g5⟩ := Vs.at_get j hlt (Vs.at_below HA.out hb (Nat.le_refl _))
      have G5 := Lib.hid g5
      clear g5
      have hkl := kid_len hlt
      have HJ := Lib.hid (kid_cbor v j hlt)
      have hl1 := size_str (v.ownCbor ++ Vs.cbor (v.kids.take j))
      have hl2 := size_str (v.kids[j]).cbor
      obtain ⟨sa, hsa⟩ : ∃ sa, str (v.ownCbor ++ Vs.cbor (v.kids.take j)) = sa := ⟨_, rfl⟩
      rw [hsa] at HJ hl1
      rw [hsa]
      have hsum : sa.size + (str (v.kids[j]).cbor).size ≤ 50000000 := by have := HL.out; omega
      clear hsa hkl hl1 hl2
      go_wp2_with fail
      refine (HC.out j hlt A' cap' _ ⟨_, HKR.out j hlt⟩ (HKF.out j hlt) (HKW.out j hlt) (Vs.at_more (Nat.le_refl _) hb.size _ _ G5.out)).mono ?_
      rintro e w3 ⟨rfl, hb3⟩
      have hbw : Below w.heap.size w w3 := hb.trans (hb3.mono hb.size)
      have B3 := B.below hb3 B.lt
      obtain ⟨sb, hsb⟩ : ∃ sb, str (v.kids[j]).cbor = sb := ⟨_, rfl⟩
      rw [hsb] at hsum HJ
      rw [hsb]
      clear hsb c0 c1 c2 c3 c4 b4
      go_wp2_with fail
      go_roundw
      case rel => exact ⟨j + 1, by omega, congrArg Value.string HJ.out, by go_num, B3, hbw⟩
      case measure => simp [intOf]; omega
    · obtain rfl : j = v.kids.length := by omega
      have HE : Hid (str (v.ownCbor ++ Vs.cbor (v.kids.take v.kids.length)) = str v.cbor) := Lib.hid (by rw [List.take_length, ← HQ.out])
      rw [HE.out]
      go_wp2_with fail
      go_ret
      exact ⟨rfl, hb⟩

set_option maxHeartbeats 4000000 in
theorem specCbor_9 (v : V) (hk : ∀ i (h : i < v.kids.length), SpecCborSaid v.kids[i]) (hkd : v.k = 9) : SpecCborSaid v := by
  intro A cap w hr hf hw hat
  obtain ⟨d, hr⟩ := hr
  have hr3 := (V.right_eq _ _).1 hr
  obtain ⟨hw1, hw2, hw3⟩ := V.weight_kids v
  have hl : v.kids.length ≤ 1048576 := by omega
  have hss : v.s.size ≤ 1048576 := by omega
  have hf3 := (V.fits_eq v).1 hf
  have HKR := Lib.hid (fun (i : Nat) (h : i < v.kids.length) => (Vs.right_iff _ _).1 hr3.2.2 i h)
  have HKF := Lib.hid (fun (i : Nat) (h : i < v.kids.length) => Vs.fits_get i h hf3.2.2.1)
  have HKW := Lib.hid (fun (i : Nat) (h : i < v.kids.length) => (show (v.kids[i]).weight ≤ 1048576 by have := Vs.weight_get i h; omega))
  have HL := Lib.hid (cbor_small hw)
  have HC := Lib.hid hk
  have HA := Lib.hid hat
  have HQ := Lib.hid (V.cbor_eq v)
  have RN := Lib.hid hf3.2.2.2.2.1
  have RE := Lib.hid hf3.2.2.2.2.2
  have q0 : (v.k == 0) = false := by rw [hkd]; rfl
  have q1 : (v.k == 1) = false := by rw [hkd]; rfl
  have q2 : (v.k == 2) = false := by rw [hkd]; rfl
  have q3 : (v.k == 3) = false := by rw [hkd]; rfl
  have q4 : (v.k == 4) = false := by rw [hkd]; rfl
  have q5 : (v.k == 5) = false := by rw [hkd]; rfl
  have q6 : (v.k == 6) = false := by rw [hkd]; rfl
  have q7 : (v.k == 7) = false := by rw [hkd]; rfl
  have q8 : (v.k == 8) = false := by rw [hkd]; rfl
  have q9 : (v.k == 9) = true := by rw [hkd]; rfl
  have HO : Hid (v.ownCbor = putHeadL 6 v.n.toNat) := Lib.hid (by unfold V.ownCbor; simp [hkd])
  have hon : (putHeadL 6 v.n.toNat).length ≤ 1048616 := by have h1 := V.ownCbor_len v; rw [HO.out] at h1; omega
  have hno : 0 ≤ v.n ∧ v.n ≤ 1000000 := by
    have h1 := hr3.2.1.1
    unfold nodeOk at h1
    simp [hkd] at h1
    exact ⟨h1.1, h1.2.1⟩
  have hu2 : IntKind.u64.wrap v.n = v.n := by rw [IntKind.wrap_u64]; omega
  have hu0 : IntKind.u64.wrap (v.kids.length : Int) = (v.kids.length : Int) := by rw [IntKind.wrap_u64]; omega
  have hu1 : IntKind.u64.wrap ((v.kids.length : Int) / 2) = (v.kids.length : Int) / 2 := by rw [IntKind.wrap_u64]; omega
  have hs1 : IntKind.u64.wrap (v.s.size : Int) = (v.s.size : Int) := by rw [IntKind.wrap_u64]; omega
  clear hk hat hr hr3 hf hf3 hkd
  have hb0 : Below w.heap.size w (w.alloc (.cells #[.int .i64 v.k, .int .i64 v.n, .int .i64 v.e, .string v.s, .slice A v.kids.length cap] 29)) := (Below.refl _ w).alloc (Nat.le_refl _) _
  obtain ⟨w0, hw0⟩ : ∃ w0, w0 = w.alloc (.cells #[.int .i64 v.k, .int .i64 v.n, .int .i64 v.e, .string v.s, .slice A v.kids.length cap] 29) := ⟨_, rfl⟩
  have B0 : Blk w0 w.heap.size 29 #[.int .i64 v.k, .int .i64 v.n, .int .i64 v.e, .string v.s, .slice A v.kids.length cap] := by rw [hw0]; exact Blk.new w _ _
  rw [← hw0] at hb0
  have hs0 := hb0.size
  have lv := B0.lt
  have HB0 := Lib.hid hb0
  have HV0 := Lib.hid B0
  obtain ⟨p0, p1, p2, p3, p4⟩ := B0.five
  clear hb0 B0
  unfold V.agg
  go_enter Tryd.func27, Tryd.ntmps27
  go_wp2_with fail
  rw [← hw0]
  clear hw0
  have HP := specPutHead 6 v.n.toNat w0 (by omega)
  rw [show ((v.n.toNat : Nat) : Int) = v.n by omega] at HP
  refine HP.mono ?_
  rintro e w1 ⟨rfl, hbx⟩
  clear HP
  have B2 := HV0.out.below hbx lv
  have Bw : Below w.heap.size w w1 := HB0.out.trans (hbx.mono hs0)
  rw [← HO.out]
  have HB2 := Lib.hid B2
  have HBw := Lib.hid Bw
  clear p0 p1 p2 p3 p4
  obtain ⟨p0, p1, p2, p3, p4⟩ := B2.five
  clear B2 Bw hbx
  go_wp2_with fail
  go_loopw [3, 4] (fun z i wr => ∃ j : Nat, j ≤ v.kids.length ∧ z = .string (str (v.ownCbor ++ Vs.cbor (v.kids.take j))) ∧ i = .int .i64 j ∧ Blk wr w.heap.size 29 #[.int .i64 v.k, .int .i64 v.n, .int .i64 v.e, .string v.s, .slice A v.kids.length cap] ∧ Below w.heap.size w wr) (fun _ i _ => v.kids.length - (intOf i).toNat)
  case atStart => exact ⟨0, Nat.zero_le _, by simp [Vs.cbor], rfl, HB2.out, HBw.out⟩
  case round =>
    obtain ⟨j, hj, rfl, rfl, B, hb⟩ := hrel
    have HB := Lib.hid B
    have b4 : wr.cell? ⟨w.heap.size, 4, none⟩ = some (.slice A v.kids.length cap) := B.cell 4
    clear p0 p1 p2 p3 p4
    by_cases hlt : j < v.kids.length
    · obtain ⟨bb, off, A', cap', rfl, g1, g2, g3, ⟨c0, c1, c2, c3, c4⟩, g5⟩ := Vs.at_get j hlt (Vs.at_below HA.out hb (Nat.le_refl _))
      have G5 := Lib.hid g5
      clear g5
      have hkl := kid_len hlt
      have HJ := Lib.hid (kid_cbor v j hlt)
      have hl1 := size_str (v.ownCbor ++ Vs.cbor (v.kids.take j))
      have hl2 := size_str (v.kids[j]).cbor
      obtain ⟨sa, hsa⟩ : ∃ sa, str (v.ownCbor ++ Vs.cbor (v.kids.take j)) = sa := ⟨_, rfl⟩
      rw [hsa] at HJ hl1
      rw [hsa]
      have hsum : sa.size + (str (v.kids[j]).cbor).size ≤ 50000000 := by have := HL.out; omega
      clear hsa hkl hl1 hl2
      go_wp2_with fail
      refine (HC.out j hlt A' cap' _ ⟨_, HKR.out j hlt⟩ (HKF.out j hlt) (HKW.out j hlt) (Vs.at_more (Nat.le_refl _) hb.size _ _ G5.out)).mono ?_
      rintro e w3 ⟨rfl, hb3⟩
      have hbw : Below w.heap.size w w3 := hb.trans (hb3.mono hb.size)
      have B3 := B.below hb3 B.lt
      obtain ⟨sb, hsb⟩ : ∃ sb, str (v.kids[j]).cbor = sb := ⟨_, rfl⟩
      rw [hsb] at hsum HJ
      rw [hsb]
      clear hsb c0 c1 c2 c3 c4 b4
      go_wp2_with fail
      go_roundw
      case rel => exact ⟨j + 1, by omega, congrArg Value.string HJ.out, by go_num, B3, hbw⟩
      case measure => simp [intOf]; omega
    · obtain rfl : j = v.kids.length := by omega
      have HE : Hid (str (v.ownCbor ++ Vs.cbor (v.kids.take v.kids.length)) = str v.cbor) := Lib.hid (by rw [List.take_length, ← HQ.out])
      rw [HE.out]
      go_wp2_with fail
      go_ret
      exact ⟨rfl, hb⟩

theorem specCbor_step (v : V) (hk : ∀ i (h : i < v.kids.length), SpecCborSaid v.kids[i]) : SpecCborSaid v := by
  intro A cap w hr
  obtain ⟨d, hd⟩ := hr
  rcases right_kinds hd with h | h | h | h | h | h | h | h | h | h
  · exact specCbor_0 v hk h A cap w ⟨d, hd⟩
  · exact specCbor_1 v hk h A cap w ⟨d, hd⟩
  · exact specCbor_2 v hk h A cap w ⟨d, hd⟩
  · exact specCbor_3 v hk h A cap w ⟨d, hd⟩
  · exact specCbor_4 v hk h A cap w ⟨d, hd⟩
  · exact specCbor_5 v hk h A cap w ⟨d, hd⟩
  · exact specCbor_6 v hk h A cap w ⟨d, hd⟩
  · exact specCbor_7 v hk h A cap w ⟨d, hd⟩
  · exact specCbor_8 v hk h A cap w ⟨d, hd⟩
  · exact specCbor_9 v hk h A cap w ⟨d, hd⟩
theorem specCbor : ∀ v, SpecCborSaid v := V.all specCbor_step
end Go.Proofs.YtkajfinfphmlaaaDoor

/-
  The message form of a value, plainly.
-/
namespace Go.Proofs.YtkajfinfphmlaaaDoor
open Go.RowKit
set_option linter.unusedVariables false

/-- What a value writes ahead of its kids. -/
def V.ownMsg (v : V) : List UInt8 :=
  if v.k = 0 then [192]
  else if v.k = 1 then [194]
  else if v.k = 2 then [195]
  else if v.k = 3 then msgInt v.n
  else if v.k = 4 then 199 :: 9 :: 4 :: (wide v.e 1 ++ wide v.n 8)
  else if v.k = 5 then msgMany v.s.size 32 160 217 218 ++ v.s.data.toList
  else if v.k = 6 then msgMany v.s.size 0 0 196 197 ++ v.s.data.toList
  else if v.k = 7 then msgMany v.kids.length 16 144 0 220
  else if v.k = 8 then msgMany ((v.kids.length / 2 : Nat) : Int) 16 128 0 222
  else if v.k = 9 then 199 :: 4 :: 6 :: wide v.n 4
  else []
mutual
def V.msg : V → List UInt8
  | .mk k n e s ks => V.ownMsg (.mk k n e s ks) ++ Vs.msg ks
def Vs.msg : List V → List UInt8
  | [] => []
  | v :: r => V.msg v ++ Vs.msg r
end
theorem V.msg_eq (v : V) : v.msg = v.ownMsg ++ Vs.msg v.kids := by cases v; simp [V.msg, V.kids]
theorem Vs.msg_snoc (l : List V) (v : V) : Vs.msg (l ++ [v]) = Vs.msg l ++ v.msg := by
  induction l with
  | nil => simp [Vs.msg]
  | cons a l ih => simp only [List.cons_append, Vs.msg, ih, List.append_assoc]
theorem Vs.msg_step (l : List V) (i : Nat) (h : i < l.length) : Vs.msg (l.take (i + 1)) = Vs.msg (l.take i) ++ (l[i]).msg := by
  rw [List.take_succ_eq_append_getElem h, Vs.msg_snoc]
theorem msgInt_len (n : Int) : (msgInt n).length ≤ 9 := by
  unfold msgInt
  repeat' split
  all_goals simp only [List.length_cons, wide_len]
  all_goals omega
theorem msgMany_len (n lim fix b8 b16 : Int) : (msgMany n lim fix b8 b16).length ≤ 3 := by
  unfold msgMany
  repeat' split
  all_goals simp only [List.length_append, wide_len]
  all_goals omega
theorem V.ownMsg_len (v : V) : v.ownMsg.length ≤ 40 + v.s.size := by
  have hs : v.s.data.toList.length = v.s.size := rfl
  have h1 := msgInt_len v.n
  have h2 := msgMany_len v.s.size 32 160 217 218
  have h3 := msgMany_len v.s.size 0 0 196 197
  have h4 := msgMany_len v.kids.length 16 144 0 220
  have h5 := msgMany_len ((v.kids.length / 2 : Nat) : Int) 16 128 0 222
  unfold V.ownMsg
  repeat' split
  all_goals try simp only [List.length_cons, List.length_append, List.length_nil, wide_len]
  all_goals omega
mutual
theorem V.msg_len : ∀ v : V, v.msg.length ≤ 40 * v.nodes + v.weight
  | .mk k n e s ks => by
    have h1 := V.ownMsg_len (.mk k n e s ks)
    have h2 := Vs.msg_len ks
    simp only [V.msg, V.nodes, V.weight, List.length_append]
    simp only [V.s] at h1
    omega
theorem Vs.msg_len : ∀ l : List V, (Vs.msg l).length ≤ 40 * Vs.nodes l + Vs.weight l
  | [] => by simp [Vs.msg]
  | v :: r => by
    have h1 := V.msg_len v
    have h2 := Vs.msg_len r
    simp only [Vs.msg, Vs.nodes, Vs.weight, List.length_append]
    omega
end
theorem msg_small {v : V} (h : v.weight ≤ 1048576) : v.msg.length ≤ 50000000 := by
  have h1 := V.msg_len v
  have h2 := V.nodes_weight v
  omega
theorem leaf_msg {v : V} (h : v.kids = []) : v.msg = v.ownMsg := by rw [V.msg_eq, h]; simp [Vs.msg]
theorem kid_lenM {v : V} {j : Nat} (hj : j < v.kids.length) : (v.ownMsg ++ Vs.msg (v.kids.take j)).length + (v.kids[j]).msg.length ≤ v.msg.length := by
  have h1 := congrArg List.length (Vs.msg_step v.kids j hj)
  have h2 : ∀ (l : List V) i, (Vs.msg (l.take i)).length ≤ (Vs.msg l).length := by
    intro l
    induction l with
    | nil => intro i; simp
    | cons a l ih =>
      intro i
      cases i with
      | zero => simp [Vs.msg]
      | succ i => simp only [List.take_succ_cons, Vs.msg, List.length_append]; have := ih i; omega
  have h3 := h2 v.kids (j + 1)
  have h4 := congrArg List.length (V.msg_eq v)
  rw [List.length_append] at h1 h4
  rw [List.length_append]
  omega
theorem kid_msg (v : V) (j : Nat) (hj : j < v.kids.length) : str (v.ownMsg ++ Vs.msg (v.kids.take j)) ++ str (v.kids[j]).msg = str (v.ownMsg ++ Vs.msg (v.kids.take (j + 1))) := by
  rw [str_add, Vs.msg_step v.kids j hj, List.append_assoc]
theorem three_cons (a b c : UInt8) (l : List UInt8) : (⟨#[a, b, c]⟩ : ByteArray) ++ str l = str (a :: b :: c :: l) := str_add [a, b, c] l
end Go.Proofs.YtkajfinfphmlaaaDoor

/-
  The program's lengths of a message.
-/
namespace Go.Proofs.YtkajfinfphmlaaaDoor
open Go.RowKit
set_option linter.unusedVariables false
set_option linter.unusedSimpArgs false
set_option maxRecDepth 100000

theorem lit_any (x y : Int) (h : x = y) (h0 : 0 ≤ y ∧ y < 256) : Named (str [byteI x]) (wide y 1) := by
  subst h
  obtain ⟨u, rfl⟩ := Int.eq_ofNat_of_zero_le h0.1
  exact congrArg str (wide_one u (by omega)).symm
theorem wideAt2 (x : Int) (m : Nat) (w : World) (h0 : -9223372036854775808 ≤ x ∧ x ≤ 9223372036854775807) (h1 : 1 ≤ m) (hm : m ≤ 8) :
    Calls Tryd.prog 40 #[.int .i64 x, .int .i64 m] w fun e w' => ∃ y, e = .returned (.string y) ∧ Named y (wide x m) ∧ y.size ≤ 8 ∧ Below w.heap.size w w' := by
  refine (implPutWide_yes x m w h0 h1 hm).mono ?_
  rintro e w' ⟨rfl, hb⟩
  exact ⟨_, rfl, rfl, by rw [size_str, wide_len]; exact hm, hb⟩

set_option maxHeartbeats 1000000 in
theorem implMsgMany (n fix lim b8 b16 : Int) (w : World) (hn : 0 ≤ n ∧ n ≤ 1048576) (hl : 0 ≤ lim ∧ lim ≤ 255) (hf : 0 ≤ fix ∧ fix ≤ 255) (hs : fix + lim ≤ 256) (h8 : 0 ≤ b8 ∧ b8 ≤ 255) (h16 : 0 ≤ b16 ∧ b16 ≤ 255) :
    Calls Tryd.prog 39 #[.int .i64 n, .int .i64 fix, .int .i64 lim, .int .i64 b8, .int .i64 b16] w fun e w' => e = .returned (.string (str (msgMany n lim fix b8 b16))) ∧ Below w.heap.size w w' := by
  have hl1 := lit1 (P := Tryd.prog) 38 9 5 Tryd.underlying38 Tryd.underlying5 Tryd.underlying9
  have hl2 := lit1_drew (P := Tryd.prog) 38 9 5 Tryd.underlying38 Tryd.underlying5 Tryd.underlying9
  have hs0 : ∀ b : UInt8, (str [b]).size = 1 := fun _ => rfl
  by_cases h : n < lim
  · have q : decide (n < lim) = true := decide_eq_true h
    have HE : Hid (msgMany n lim fix b8 b16 = wide (fix + n) 1) := Lib.hid (by unfold msgMany; rw [if_pos h])
    have hu : IntKind.u8.wrap (fix + n) = fix + n := by rw [IntKind.wrap_u8']; omega
    go_enter Tryd.func39, Tryd.ntmps39
    go_wp2_with fail
    go_ret
    exact ⟨ret_eq (congrArg Value.string ((lit_any _ (fix + n) (by first | rfl | omega | (rw [IntKind.wrap_u8']; omega)) (by omega)).trans (congrArg str HE.out.symm))), (Below.refl _ w).alloc (Nat.le_refl _) _⟩
  · have q : decide (n < lim) = false := decide_eq_false h
    by_cases hb : n < 256 ∧ 0 < b8
    · have q1 : decide (n < 256) = true := decide_eq_true hb.1
      have q2 : decide (0 < b8) = true := decide_eq_true hb.2
      have HE : Hid (msgMany n lim fix b8 b16 = wide b8 1 ++ wide n 1) := Lib.hid (by unfold msgMany; rw [if_neg h, if_pos hb])
      have hu : IntKind.u8.wrap b8 = b8 := by rw [IntKind.wrap_u8']; omega
      obtain ⟨hb1', hb2'⟩ := hb
      go_enter Tryd.func39, Tryd.ntmps39
      go_wp2_with fail
      go_region_with ((go_at_call 40; refine (wideAt2 n 1 _ (by omega) (by omega) (by omega)).mono ?_; rintro e w1 ⟨x2, rfl, H2, hs2, hb1⟩; try have hcv := lit1_after (P := Tryd.prog) 38 9 5 Tryd.underlying38 Tryd.underlying5 Tryd.underlying9 hb1))
      all_goals go_wp2_with fail
      all_goals go_ret
      all_goals exact ⟨ret_eq (congrArg Value.string ((named_add (lit_any _ b8 (by first | rfl | omega | (rw [IntKind.wrap_u8']; omega)) (by omega)) H2).trans (congrArg str HE.out.symm))), by first | exact bl_1 hb1 | exact bl_2 hb1⟩
    · have HE : Hid (msgMany n lim fix b8 b16 = wide b16 1 ++ wide n 2) := Lib.hid (by unfold msgMany; rw [if_neg h, if_neg hb])
      have hu : IntKind.u8.wrap b16 = b16 := by rw [IntKind.wrap_u8']; omega
      rcases (show (decide (n < 256) = false ∧ 256 ≤ n) ∨ (decide (n < 256) = true ∧ decide (0 < b8) = false ∧ n < 256 ∧ b8 = 0) by
        by_cases h1 : n < 256
        · exact .inr ⟨decide_eq_true h1, decide_eq_false (fun h2 => hb ⟨h1, h2⟩), h1, by omega⟩
        · exact .inl ⟨decide_eq_false h1, by omega⟩) with hc | ⟨hc1, hc2, hc3, hc4⟩
      all_goals
        go_enter Tryd.func39, Tryd.ntmps39
        go_wp2_with fail
        go_region_with ((go_at_call 40; refine (wideAt2 n 2 _ (by omega) (by omega) (by omega)).mono ?_; rintro e w1 ⟨x2, rfl, H2, hs2, hb1⟩; try have hcv := lit1_after (P := Tryd.prog) 38 9 5 Tryd.underlying38 Tryd.underlying5 Tryd.underlying9 hb1))
        all_goals go_wp2_with fail
        all_goals go_ret
        all_goals exact ⟨ret_eq (congrArg Value.string ((named_add (lit_any _ b16 (by first | rfl | omega | (rw [IntKind.wrap_u8']; omega)) (by omega)) H2).trans (congrArg str HE.out.symm))), by first | exact bl_1 hb1 | exact bl_2 hb1⟩
end Go.Proofs.YtkajfinfphmlaaaDoor

/-
  The program's SignOf and putNumber.
-/
namespace Go.Proofs.YtkajfinfphmlaaaDoor
open Go.RowKit
set_option linter.unusedVariables false
set_option linter.unusedSimpArgs false
set_option maxRecDepth 100000

theorem sgn_1 (n : Int) (h : -9223372036854775808 ≤ n ∧ n ≤ 9223372036854775807) : (wrap64 (n * 72057594037927936) / 72057594037927936 == n) = decide (-128 ≤ n ∧ n ≤ 127) := by
  rw [wrap64_eq]
  by_cases hr : -128 ≤ n ∧ n ≤ 127
  · rw [decide_eq_true hr, beq_iff_eq]; omega
  · rw [decide_eq_false hr, beq_eq_false_iff_ne]; omega
set_option maxHeartbeats 1000000 in
theorem implSign_1 (n : Int) (w : World) (h : -9223372036854775808 ≤ n ∧ n ≤ 9223372036854775807) :
    Calls Tryd.prog 57 #[.int .i64 n, .int .i64 1] w fun e w' => ∃ y, e = .returned (.int .i64 y) ∧ (y == n) = decide (-128 ≤ n ∧ n ≤ 127) ∧ w' = w := by
  have HG := Lib.hid (sgn_1 n h)
  go_enter Tryd.func57, Tryd.ntmps57
  go_wp2_with (go_at_call 56; go_in)
  go_ret
  exact ⟨_, rfl, HG.out, rfl⟩

theorem sgn_2 (n : Int) (h : -9223372036854775808 ≤ n ∧ n ≤ 9223372036854775807) : (wrap64 (n * 281474976710656) / 281474976710656 == n) = decide (-32768 ≤ n ∧ n ≤ 32767) := by
  rw [wrap64_eq]
  by_cases hr : -32768 ≤ n ∧ n ≤ 32767
  · rw [decide_eq_true hr, beq_iff_eq]; omega
  · rw [decide_eq_false hr, beq_eq_false_iff_ne]; omega
set_option maxHeartbeats 1000000 in
theorem implSign_2 (n : Int) (w : World) (h : -9223372036854775808 ≤ n ∧ n ≤ 9223372036854775807) :
    Calls Tryd.prog 57 #[.int .i64 n, .int .i64 2] w fun e w' => ∃ y, e = .returned (.int .i64 y) ∧ (y == n) = decide (-32768 ≤ n ∧ n ≤ 32767) ∧ w' = w := by
  have HG := Lib.hid (sgn_2 n h)
  go_enter Tryd.func57, Tryd.ntmps57
  go_wp2_with (go_at_call 56; go_in)
  go_ret
  exact ⟨_, rfl, HG.out, rfl⟩

theorem sgn_4 (n : Int) (h : -9223372036854775808 ≤ n ∧ n ≤ 9223372036854775807) : (wrap64 (n * 4294967296) / 4294967296 == n) = decide (-2147483648 ≤ n ∧ n ≤ 2147483647) := by
  rw [wrap64_eq]
  by_cases hr : -2147483648 ≤ n ∧ n ≤ 2147483647
  · rw [decide_eq_true hr, beq_iff_eq]; omega
  · rw [decide_eq_false hr, beq_eq_false_iff_ne]; omega
set_option maxHeartbeats 1000000 in
theorem implSign_4 (n : Int) (w : World) (h : -9223372036854775808 ≤ n ∧ n ≤ 9223372036854775807) :
    Calls Tryd.prog 57 #[.int .i64 n, .int .i64 4] w fun e w' => ∃ y, e = .returned (.int .i64 y) ∧ (y == n) = decide (-2147483648 ≤ n ∧ n ≤ 2147483647) ∧ w' = w := by
  have HG := Lib.hid (sgn_4 n h)
  go_enter Tryd.func57, Tryd.ntmps57
  go_wp2_with (go_at_call 56; go_in)
  go_ret
  exact ⟨_, rfl, HG.out, rfl⟩

theorem sgn_8 (n : Int) (h : -9223372036854775808 ≤ n ∧ n ≤ 9223372036854775807) : (n == n) = decide (-9223372036854775808 ≤ n ∧ n ≤ 9223372036854775807) := by
  rw [decide_eq_true (show -9223372036854775808 ≤ n ∧ n ≤ 9223372036854775807 by omega), beq_iff_eq]
set_option maxHeartbeats 1000000 in
theorem implSign_8 (n : Int) (w : World) (h : -9223372036854775808 ≤ n ∧ n ≤ 9223372036854775807) :
    Calls Tryd.prog 57 #[.int .i64 n, .int .i64 8] w fun e w' => ∃ y, e = .returned (.int .i64 y) ∧ (y == n) = decide (-9223372036854775808 ≤ n ∧ n ≤ 9223372036854775807) ∧ w' = w := by
  have HG := Lib.hid (sgn_8 n h)
  go_enter Tryd.func57, Tryd.ntmps57
  go_wp2_with (go_at_call 56; go_in)
  go_ret
  exact ⟨_, rfl, HG.out, rfl⟩

set_option maxHeartbeats 4000000 in
theorem implNumb_0 (n : Int) (w : World) (h : -32 ≤ n ∧ n ≤ 127) : Calls Tryd.prog 38 #[.int .i64 n] w fun e w' => e = .returned (.string (str (msgInt n))) ∧ Below w.heap.size w w' := by
  have HE : Hid (msgInt n = wide n 1) := Lib.hid (by unfold msgInt;  rw [if_pos (by omega)])
  have hl1 := lit1 (P := Tryd.prog) 38 9 5 Tryd.underlying38 Tryd.underlying5 Tryd.underlying9
  have hl2 := lit1_drew (P := Tryd.prog) 38 9 5 Tryd.underlying38 Tryd.underlying5 Tryd.underlying9
  have hs0 : ∀ b : UInt8, (str [b]).size = 1 := fun _ => rfl
  have t0 : decide (-32 ≤ n) = true := decide_eq_true (by omega)
  have t1 : decide (n ≤ 127) = true := decide_eq_true (by omega)
  have t4 : decide (n < 256) = true := decide_eq_true (by omega)
  have t5 : decide (n < 65536) = true := decide_eq_true (by omega)
  have t6 : decide (n < 4294967296) = true := decide_eq_true (by omega)
  go_enter Tryd.func38, Tryd.ntmps38
  go_wp2_with (go_at_call 56; go_in)
  refine (implPutWide_yes n 1 w (by omega) (by omega) (by omega)).mono ?_
  rintro e w1 ⟨rfl, hb1⟩
  go_wp2_with fail
  go_ret
  exact ⟨ret_eq (by rw [HE.out]; rfl), hb1⟩

set_option maxHeartbeats 4000000 in
theorem implNumb_1 (n : Int) (w : World) (h : 128 ≤ n ∧ n ≤ 255) : Calls Tryd.prog 38 #[.int .i64 n] w fun e w' => e = .returned (.string (str (msgInt n))) ∧ Below w.heap.size w w' := by
  have HE : Hid (msgInt n = wide 204 1 ++ wide n 1) := Lib.hid (by unfold msgInt; rw [if_neg (by omega)]; rw [if_pos (by omega)]; rfl)
  have hl1 := lit1 (P := Tryd.prog) 38 9 5 Tryd.underlying38 Tryd.underlying5 Tryd.underlying9
  have hl2 := lit1_drew (P := Tryd.prog) 38 9 5 Tryd.underlying38 Tryd.underlying5 Tryd.underlying9
  have hs0 : ∀ b : UInt8, (str [b]).size = 1 := fun _ => rfl
  have t0 : decide (-32 ≤ n) = true := decide_eq_true (by omega)
  have t1 : decide (n ≤ 127) = false := decide_eq_false (by omega)
  have t2 : decide (0 ≤ n) = true := decide_eq_true (by omega)
  have t3 : decide (n < 0) = false := decide_eq_false (by omega)
  have t4 : decide (n < 256) = true := decide_eq_true (by omega)
  have t5 : decide (n < 65536) = true := decide_eq_true (by omega)
  have t6 : decide (n < 4294967296) = true := decide_eq_true (by omega)
  go_enter Tryd.func38, Tryd.ntmps38
  go_wp2_with (go_at_call 56; go_in)
  refine wp_loop_rounds 5 ?_
  rw [rounds_succ]
  go_wp2_with fail
  obtain ⟨wa, hwa⟩ : ∃ wa, wa = w.alloc (.cells #[.int .i64 1, .int .i64 2, .int .i64 4, .int .i64 8] 3) := ⟨_, rfl⟩
  have hba : Below w.heap.size w wa := by rw [hwa]; exact (Below.refl _ w).alloc (Nat.le_refl _) _
  rw [← hwa]
  clear hwa
  go_region_with ((go_at_call 40; refine (wideAt2 n 1 _ (by omega) (by omega) (by omega)).mono ?_; rintro e w1 ⟨x2, rfl, H2, hs2, hb1⟩; try have hcv := lit1_after (P := Tryd.prog) 38 9 5 Tryd.underlying38 Tryd.underlying5 Tryd.underlying9 hb1))
  all_goals go_wp2_with fail
  all_goals go_ret
  all_goals exact ⟨ret_eq (congrArg Value.string ((named_add (lit_any _ 204 (by first | rfl | omega | decide) (by omega)) H2).trans (congrArg str HE.out.symm))), hba.trans ((show Below wa.heap.size wa _ by first | exact bl_1 hb1 | exact bl_2 hb1).mono hba.size)⟩

set_option maxHeartbeats 4000000 in
theorem implNumb_2 (n : Int) (w : World) (h : 256 ≤ n ∧ n ≤ 65535) : Calls Tryd.prog 38 #[.int .i64 n] w fun e w' => e = .returned (.string (str (msgInt n))) ∧ Below w.heap.size w w' := by
  have HE : Hid (msgInt n = wide 205 1 ++ wide n 2) := Lib.hid (by unfold msgInt; rw [if_neg (by omega)]; rw [if_neg (by omega)]; rw [if_pos (by omega)]; rfl)
  have hl1 := lit1 (P := Tryd.prog) 38 9 5 Tryd.underlying38 Tryd.underlying5 Tryd.underlying9
  have hl2 := lit1_drew (P := Tryd.prog) 38 9 5 Tryd.underlying38 Tryd.underlying5 Tryd.underlying9
  have hs0 : ∀ b : UInt8, (str [b]).size = 1 := fun _ => rfl
  have t0 : decide (-32 ≤ n) = true := decide_eq_true (by omega)
  have t1 : decide (n ≤ 127) = false := decide_eq_false (by omega)
  have t2 : decide (0 ≤ n) = true := decide_eq_true (by omega)
  have t3 : decide (n < 0) = false := decide_eq_false (by omega)
  have t4 : decide (n < 256) = false := decide_eq_false (by omega)
  have t5 : decide (n < 65536) = true := decide_eq_true (by omega)
  have t6 : decide (n < 4294967296) = true := decide_eq_true (by omega)
  go_enter Tryd.func38, Tryd.ntmps38
  go_wp2_with (go_at_call 56; go_in)
  refine wp_loop_rounds 5 ?_
  rw [rounds_succ]
  go_wp2_with fail
  rw [rounds_succ]
  go_wp2_with fail
  obtain ⟨wa, hwa⟩ : ∃ wa, wa = w.alloc (.cells #[.int .i64 1, .int .i64 2, .int .i64 4, .int .i64 8] 3) := ⟨_, rfl⟩
  have hba : Below w.heap.size w wa := by rw [hwa]; exact (Below.refl _ w).alloc (Nat.le_refl _) _
  rw [← hwa]
  clear hwa
  go_region_with ((go_at_call 40; refine (wideAt2 n 2 _ (by omega) (by omega) (by omega)).mono ?_; rintro e w1 ⟨x2, rfl, H2, hs2, hb1⟩; try have hcv := lit1_after (P := Tryd.prog) 38 9 5 Tryd.underlying38 Tryd.underlying5 Tryd.underlying9 hb1))
  all_goals go_wp2_with fail
  all_goals go_ret
  all_goals exact ⟨ret_eq (congrArg Value.string ((named_add (lit_any _ 205 (by first | rfl | omega | decide) (by omega)) H2).trans (congrArg str HE.out.symm))), hba.trans ((show Below wa.heap.size wa _ by first | exact bl_1 hb1 | exact bl_2 hb1).mono hba.size)⟩

set_option maxHeartbeats 4000000 in
theorem implNumb_3 (n : Int) (w : World) (h : 65536 ≤ n ∧ n ≤ 4294967295) : Calls Tryd.prog 38 #[.int .i64 n] w fun e w' => e = .returned (.string (str (msgInt n))) ∧ Below w.heap.size w w' := by
  have HE : Hid (msgInt n = wide 206 1 ++ wide n 4) := Lib.hid (by unfold msgInt; rw [if_neg (by omega)]; rw [if_neg (by omega)]; rw [if_neg (by omega)]; rw [if_pos (by omega)]; rfl)
  have hl1 := lit1 (P := Tryd.prog) 38 9 5 Tryd.underlying38 Tryd.underlying5 Tryd.underlying9
  have hl2 := lit1_drew (P := Tryd.prog) 38 9 5 Tryd.underlying38 Tryd.underlying5 Tryd.underlying9
  have hs0 : ∀ b : UInt8, (str [b]).size = 1 := fun _ => rfl
  have t0 : decide (-32 ≤ n) = true := decide_eq_true (by omega)
  have t1 : decide (n ≤ 127) = false := decide_eq_false (by omega)
  have t2 : decide (0 ≤ n) = true := decide_eq_true (by omega)
  have t3 : decide (n < 0) = false := decide_eq_false (by omega)
  have t4 : decide (n < 256) = false := decide_eq_false (by omega)
  have t5 : decide (n < 65536) = false := decide_eq_false (by omega)
  have t6 : decide (n < 4294967296) = true := decide_eq_true (by omega)
  go_enter Tryd.func38, Tryd.ntmps38
  go_wp2_with (go_at_call 56; go_in)
  refine wp_loop_rounds 5 ?_
  rw [rounds_succ]
  go_wp2_with fail
  rw [rounds_succ]
  go_wp2_with fail
  rw [rounds_succ]
  go_wp2_with fail
  obtain ⟨wa, hwa⟩ : ∃ wa, wa = w.alloc (.cells #[.int .i64 1, .int .i64 2, .int .i64 4, .int .i64 8] 3) := ⟨_, rfl⟩
  have hba : Below w.heap.size w wa := by rw [hwa]; exact (Below.refl _ w).alloc (Nat.le_refl _) _
  rw [← hwa]
  clear hwa
  go_region_with ((go_at_call 40; refine (wideAt2 n 4 _ (by omega) (by omega) (by omega)).mono ?_; rintro e w1 ⟨x2, rfl, H2, hs2, hb1⟩; try have hcv := lit1_after (P := Tryd.prog) 38 9 5 Tryd.underlying38 Tryd.underlying5 Tryd.underlying9 hb1))
  all_goals go_wp2_with fail
  all_goals go_ret
  all_goals exact ⟨ret_eq (congrArg Value.string ((named_add (lit_any _ 206 (by first | rfl | omega | decide) (by omega)) H2).trans (congrArg str HE.out.symm))), hba.trans ((show Below wa.heap.size wa _ by first | exact bl_1 hb1 | exact bl_2 hb1).mono hba.size)⟩

set_option maxHeartbeats 4000000 in
theorem implNumb_4 (n : Int) (w : World) (h : 4294967296 ≤ n ∧ n ≤ 9223372036854775807) : Calls Tryd.prog 38 #[.int .i64 n] w fun e w' => e = .returned (.string (str (msgInt n))) ∧ Below w.heap.size w w' := by
  have HE : Hid (msgInt n = wide 207 1 ++ wide n 8) := Lib.hid (by unfold msgInt; rw [if_neg (by omega)]; rw [if_neg (by omega)]; rw [if_neg (by omega)]; rw [if_neg (by omega)]; rw [if_pos (by omega)]; rfl)
  have hl1 := lit1 (P := Tryd.prog) 38 9 5 Tryd.underlying38 Tryd.underlying5 Tryd.underlying9
  have hl2 := lit1_drew (P := Tryd.prog) 38 9 5 Tryd.underlying38 Tryd.underlying5 Tryd.underlying9
  have hs0 : ∀ b : UInt8, (str [b]).size = 1 := fun _ => rfl
  have t0 : decide (-32 ≤ n) = true := decide_eq_true (by omega)
  have t1 : decide (n ≤ 127) = false := decide_eq_false (by omega)
  have t2 : decide (0 ≤ n) = true := decide_eq_true (by omega)
  have t3 : decide (n < 0) = false := decide_eq_false (by omega)
  have t4 : decide (n < 256) = false := decide_eq_false (by omega)
  have t5 : decide (n < 65536) = false := decide_eq_false (by omega)
  have t6 : decide (n < 4294967296) = false := decide_eq_false (by omega)
  go_enter Tryd.func38, Tryd.ntmps38
  go_wp2_with (go_at_call 56; go_in)
  refine wp_loop_rounds 5 ?_
  rw [rounds_succ]
  go_wp2_with fail
  rw [rounds_succ]
  go_wp2_with fail
  rw [rounds_succ]
  go_wp2_with fail
  rw [rounds_succ]
  go_wp2_with fail
  obtain ⟨wa, hwa⟩ : ∃ wa, wa = w.alloc (.cells #[.int .i64 1, .int .i64 2, .int .i64 4, .int .i64 8] 3) := ⟨_, rfl⟩
  have hba : Below w.heap.size w wa := by rw [hwa]; exact (Below.refl _ w).alloc (Nat.le_refl _) _
  rw [← hwa]
  clear hwa
  go_region_with ((go_at_call 40; refine (wideAt2 n 8 _ (by omega) (by omega) (by omega)).mono ?_; rintro e w1 ⟨x2, rfl, H2, hs2, hb1⟩; try have hcv := lit1_after (P := Tryd.prog) 38 9 5 Tryd.underlying38 Tryd.underlying5 Tryd.underlying9 hb1))
  all_goals go_wp2_with fail
  all_goals go_ret
  all_goals exact ⟨ret_eq (congrArg Value.string ((named_add (lit_any _ 207 (by first | rfl | omega | decide) (by omega)) H2).trans (congrArg str HE.out.symm))), hba.trans ((show Below wa.heap.size wa _ by first | exact bl_1 hb1 | exact bl_2 hb1).mono hba.size)⟩

set_option maxHeartbeats 4000000 in
theorem implNumb_5 (n : Int) (w : World) (h : -128 ≤ n ∧ n ≤ -33) : Calls Tryd.prog 38 #[.int .i64 n] w fun e w' => e = .returned (.string (str (msgInt n))) ∧ Below w.heap.size w w' := by
  have HE : Hid (msgInt n = wide 208 1 ++ wide n 1) := Lib.hid (by unfold msgInt; rw [if_neg (by omega)]; rw [if_neg (by omega)]; rw [if_neg (by omega)]; rw [if_neg (by omega)]; rw [if_neg (by omega)]; rw [if_pos (by omega)]; rfl)
  have hl1 := lit1 (P := Tryd.prog) 38 9 5 Tryd.underlying38 Tryd.underlying5 Tryd.underlying9
  have hl2 := lit1_drew (P := Tryd.prog) 38 9 5 Tryd.underlying38 Tryd.underlying5 Tryd.underlying9
  have hs0 : ∀ b : UInt8, (str [b]).size = 1 := fun _ => rfl
  have t0 : decide (-32 ≤ n) = false := decide_eq_false (by omega)
  have t1 : decide (n ≤ 127) = true := decide_eq_true (by omega)
  have t2 : decide (0 ≤ n) = false := decide_eq_false (by omega)
  have t3 : decide (n < 0) = true := decide_eq_true (by omega)
  have t4 : decide (n < 256) = true := decide_eq_true (by omega)
  have t5 : decide (n < 65536) = true := decide_eq_true (by omega)
  have t6 : decide (n < 4294967296) = true := decide_eq_true (by omega)
  go_enter Tryd.func38, Tryd.ntmps38
  go_wp2_with (go_at_call 56; go_in)
  refine wp_loop_rounds 5 ?_
  rw [rounds_succ]
  go_wp2_with fail
  refine (implSign_1 n _ (by omega)).mono ?_
  rintro e w' ⟨y0, rfl, hy0, rfl⟩
  rw [show decide (-128 ≤ n ∧ n ≤ 127) = true from decide_eq_true (by omega)] at hy0
  go_wp2_with fail
  obtain ⟨wa, hwa⟩ : ∃ wa, wa = w.alloc (.cells #[.int .i64 1, .int .i64 2, .int .i64 4, .int .i64 8] 3) := ⟨_, rfl⟩
  have hba : Below w.heap.size w wa := by rw [hwa]; exact (Below.refl _ w).alloc (Nat.le_refl _) _
  rw [← hwa]
  clear hwa
  go_region_with ((go_at_call 40; refine (wideAt2 n 1 _ (by omega) (by omega) (by omega)).mono ?_; rintro e w1 ⟨x2, rfl, H2, hs2, hb1⟩; try have hcv := lit1_after (P := Tryd.prog) 38 9 5 Tryd.underlying38 Tryd.underlying5 Tryd.underlying9 hb1))
  all_goals go_wp2_with fail
  all_goals go_ret
  all_goals exact ⟨ret_eq (congrArg Value.string ((named_add (lit_any _ 208 (by first | rfl | omega | decide) (by omega)) H2).trans (congrArg str HE.out.symm))), hba.trans ((show Below wa.heap.size wa _ by first | exact bl_1 hb1 | exact bl_2 hb1).mono hba.size)⟩

set_option maxHeartbeats 4000000 in
theorem implNumb_6 (n : Int) (w : World) (h : -32768 ≤ n ∧ n ≤ -129) : Calls Tryd.prog 38 #[.int .i64 n] w fun e w' => e = .returned (.string (str (msgInt n))) ∧ Below w.heap.size w w' := by
  have HE : Hid (msgInt n = wide 209 1 ++ wide n 2) := Lib.hid (by unfold msgInt; rw [if_neg (by omega)]; rw [if_neg (by omega)]; rw [if_neg (by omega)]; rw [if_neg (by omega)]; rw [if_neg (by omega)]; rw [if_neg (by omega)]; rw [if_pos (by omega)]; rfl)
  have hl1 := lit1 (P := Tryd.prog) 38 9 5 Tryd.underlying38 Tryd.underlying5 Tryd.underlying9
  have hl2 := lit1_drew (P := Tryd.prog) 38 9 5 Tryd.underlying38 Tryd.underlying5 Tryd.underlying9
  have hs0 : ∀ b : UInt8, (str [b]).size = 1 := fun _ => rfl
  have t0 : decide (-32 ≤ n) = false := decide_eq_false (by omega)
  have t1 : decide (n ≤ 127) = true := decide_eq_true (by omega)
  have t2 : decide (0 ≤ n) = false := decide_eq_false (by omega)
  have t3 : decide (n < 0) = true := decide_eq_true (by omega)
  have t4 : decide (n < 256) = true := decide_eq_true (by omega)
  have t5 : decide (n < 65536) = true := decide_eq_true (by omega)
  have t6 : decide (n < 4294967296) = true := decide_eq_true (by omega)
  go_enter Tryd.func38, Tryd.ntmps38
  go_wp2_with (go_at_call 56; go_in)
  refine wp_loop_rounds 5 ?_
  rw [rounds_succ]
  go_wp2_with fail
  refine (implSign_1 n _ (by omega)).mono ?_
  rintro e w' ⟨y0, rfl, hy0, rfl⟩
  rw [show decide (-128 ≤ n ∧ n ≤ 127) = false from decide_eq_false (by omega)] at hy0
  go_wp2_with fail
  rw [rounds_succ]
  go_wp2_with fail
  refine (implSign_2 n _ (by omega)).mono ?_
  rintro e w' ⟨y1, rfl, hy1, rfl⟩
  rw [show decide (-32768 ≤ n ∧ n ≤ 32767) = true from decide_eq_true (by omega)] at hy1
  go_wp2_with fail
  obtain ⟨wa, hwa⟩ : ∃ wa, wa = w.alloc (.cells #[.int .i64 1, .int .i64 2, .int .i64 4, .int .i64 8] 3) := ⟨_, rfl⟩
  have hba : Below w.heap.size w wa := by rw [hwa]; exact (Below.refl _ w).alloc (Nat.le_refl _) _
  rw [← hwa]
  clear hwa
  go_region_with ((go_at_call 40; refine (wideAt2 n 2 _ (by omega) (by omega) (by omega)).mono ?_; rintro e w1 ⟨x2, rfl, H2, hs2, hb1⟩; try have hcv := lit1_after (P := Tryd.prog) 38 9 5 Tryd.underlying38 Tryd.underlying5 Tryd.underlying9 hb1))
  all_goals go_wp2_with fail
  all_goals go_ret
  all_goals exact ⟨ret_eq (congrArg Value.string ((named_add (lit_any _ 209 (by first | rfl | omega | decide) (by omega)) H2).trans (congrArg str HE.out.symm))), hba.trans ((show Below wa.heap.size wa _ by first | exact bl_1 hb1 | exact bl_2 hb1).mono hba.size)⟩

set_option maxHeartbeats 4000000 in
theorem implNumb_7 (n : Int) (w : World) (h : -2147483648 ≤ n ∧ n ≤ -32769) : Calls Tryd.prog 38 #[.int .i64 n] w fun e w' => e = .returned (.string (str (msgInt n))) ∧ Below w.heap.size w w' := by
  have HE : Hid (msgInt n = wide 210 1 ++ wide n 4) := Lib.hid (by unfold msgInt; rw [if_neg (by omega)]; rw [if_neg (by omega)]; rw [if_neg (by omega)]; rw [if_neg (by omega)]; rw [if_neg (by omega)]; rw [if_neg (by omega)]; rw [if_neg (by omega)]; rw [if_pos (by omega)]; rfl)
  have hl1 := lit1 (P := Tryd.prog) 38 9 5 Tryd.underlying38 Tryd.underlying5 Tryd.underlying9
  have hl2 := lit1_drew (P := Tryd.prog) 38 9 5 Tryd.underlying38 Tryd.underlying5 Tryd.underlying9
  have hs0 : ∀ b : UInt8, (str [b]).size = 1 := fun _ => rfl
  have t0 : decide (-32 ≤ n) = false := decide_eq_false (by omega)
  have t1 : decide (n ≤ 127) = true := decide_eq_true (by omega)
  have t2 : decide (0 ≤ n) = false := decide_eq_false (by omega)
  have t3 : decide (n < 0) = true := decide_eq_true (by omega)
  have t4 : decide (n < 256) = true := decide_eq_true (by omega)
  have t5 : decide (n < 65536) = true := decide_eq_true (by omega)
  have t6 : decide (n < 4294967296) = true := decide_eq_true (by omega)
  go_enter Tryd.func38, Tryd.ntmps38
  go_wp2_with (go_at_call 56; go_in)
  refine wp_loop_rounds 5 ?_
  rw [rounds_succ]
  go_wp2_with fail
  refine (implSign_1 n _ (by omega)).mono ?_
  rintro e w' ⟨y0, rfl, hy0, rfl⟩
  rw [show decide (-128 ≤ n ∧ n ≤ 127) = false from decide_eq_false (by omega)] at hy0
  go_wp2_with fail
  rw [rounds_succ]
  go_wp2_with fail
  refine (implSign_2 n _ (by omega)).mono ?_
  rintro e w' ⟨y1, rfl, hy1, rfl⟩
  rw [show decide (-32768 ≤ n ∧ n ≤ 32767) = false from decide_eq_false (by omega)] at hy1
  go_wp2_with fail
  rw [rounds_succ]
  go_wp2_with fail
  refine (implSign_4 n _ (by omega)).mono ?_
  rintro e w' ⟨y2, rfl, hy2, rfl⟩
  rw [show decide (-2147483648 ≤ n ∧ n ≤ 2147483647) = true from decide_eq_true (by omega)] at hy2
  go_wp2_with fail
  obtain ⟨wa, hwa⟩ : ∃ wa, wa = w.alloc (.cells #[.int .i64 1, .int .i64 2, .int .i64 4, .int .i64 8] 3) := ⟨_, rfl⟩
  have hba : Below w.heap.size w wa := by rw [hwa]; exact (Below.refl _ w).alloc (Nat.le_refl _) _
  rw [← hwa]
  clear hwa
  go_region_with ((go_at_call 40; refine (wideAt2 n 4 _ (by omega) (by omega) (by omega)).mono ?_; rintro e w1 ⟨x2, rfl, H2, hs2, hb1⟩; try have hcv := lit1_after (P := Tryd.prog) 38 9 5 Tryd.underlying38 Tryd.underlying5 Tryd.underlying9 hb1))
  all_goals go_wp2_with fail
  all_goals go_ret
  all_goals exact ⟨ret_eq (congrArg Value.string ((named_add (lit_any _ 210 (by first | rfl | omega | decide) (by omega)) H2).trans (congrArg str HE.out.symm))), hba.trans ((show Below wa.heap.size wa _ by first | exact bl_1 hb1 | exact bl_2 hb1).mono hba.size)⟩

set_option maxHeartbeats 4000000 in
theorem implNumb_8 (n : Int) (w : World) (h : -9223372036854775808 ≤ n ∧ n ≤ -2147483649) : Calls Tryd.prog 38 #[.int .i64 n] w fun e w' => e = .returned (.string (str (msgInt n))) ∧ Below w.heap.size w w' := by
  have HE : Hid (msgInt n = wide 211 1 ++ wide n 8) := Lib.hid (by unfold msgInt; rw [if_neg (by omega)]; rw [if_neg (by omega)]; rw [if_neg (by omega)]; rw [if_neg (by omega)]; rw [if_neg (by omega)]; rw [if_neg (by omega)]; rw [if_neg (by omega)]; rw [if_neg (by omega)]; rfl)
  have hl1 := lit1 (P := Tryd.prog) 38 9 5 Tryd.underlying38 Tryd.underlying5 Tryd.underlying9
  have hl2 := lit1_drew (P := Tryd.prog) 38 9 5 Tryd.underlying38 Tryd.underlying5 Tryd.underlying9
  have hs0 : ∀ b : UInt8, (str [b]).size = 1 := fun _ => rfl
  have t0 : decide (-32 ≤ n) = false := decide_eq_false (by omega)
  have t1 : decide (n ≤ 127) = true := decide_eq_true (by omega)
  have t2 : decide (0 ≤ n) = false := decide_eq_false (by omega)
  have t3 : decide (n < 0) = true := decide_eq_true (by omega)
  have t4 : decide (n < 256) = true := decide_eq_true (by omega)
  have t5 : decide (n < 65536) = true := decide_eq_true (by omega)
  have t6 : decide (n < 4294967296) = true := decide_eq_true (by omega)
  go_enter Tryd.func38, Tryd.ntmps38
  go_wp2_with (go_at_call 56; go_in)
  refine wp_loop_rounds 5 ?_
  rw [rounds_succ]
  go_wp2_with fail
  refine (implSign_1 n _ (by omega)).mono ?_
  rintro e w' ⟨y0, rfl, hy0, rfl⟩
  rw [show decide (-128 ≤ n ∧ n ≤ 127) = false from decide_eq_false (by omega)] at hy0
  go_wp2_with fail
  rw [rounds_succ]
  go_wp2_with fail
  refine (implSign_2 n _ (by omega)).mono ?_
  rintro e w' ⟨y1, rfl, hy1, rfl⟩
  rw [show decide (-32768 ≤ n ∧ n ≤ 32767) = false from decide_eq_false (by omega)] at hy1
  go_wp2_with fail
  rw [rounds_succ]
  go_wp2_with fail
  refine (implSign_4 n _ (by omega)).mono ?_
  rintro e w' ⟨y2, rfl, hy2, rfl⟩
  rw [show decide (-2147483648 ≤ n ∧ n ≤ 2147483647) = false from decide_eq_false (by omega)] at hy2
  go_wp2_with fail
  rw [rounds_succ]
  go_wp2_with fail
  refine (implSign_8 n _ (by omega)).mono ?_
  rintro e w' ⟨y3, rfl, hy3, rfl⟩
  rw [show decide (-9223372036854775808 ≤ n ∧ n ≤ 9223372036854775807) = true from decide_eq_true (by omega)] at hy3
  go_wp2_with fail
  obtain ⟨wa, hwa⟩ : ∃ wa, wa = w.alloc (.cells #[.int .i64 1, .int .i64 2, .int .i64 4, .int .i64 8] 3) := ⟨_, rfl⟩
  have hba : Below w.heap.size w wa := by rw [hwa]; exact (Below.refl _ w).alloc (Nat.le_refl _) _
  rw [← hwa]
  clear hwa
  go_region_with ((go_at_call 40; refine (wideAt2 n 8 _ (by omega) (by omega) (by omega)).mono ?_; rintro e w1 ⟨x2, rfl, H2, hs2, hb1⟩; try have hcv := lit1_after (P := Tryd.prog) 38 9 5 Tryd.underlying38 Tryd.underlying5 Tryd.underlying9 hb1))
  all_goals go_wp2_with fail
  all_goals go_ret
  all_goals exact ⟨ret_eq (congrArg Value.string ((named_add (lit_any _ 211 (by first | rfl | omega | decide) (by omega)) H2).trans (congrArg str HE.out.symm))), hba.trans ((show Below wa.heap.size wa _ by first | exact bl_1 hb1 | exact bl_2 hb1).mono hba.size)⟩

theorem implMsgInt (n : Int) (w : World) (h : -9223372036854775808 ≤ n ∧ n ≤ 9223372036854775807) : Calls Tryd.prog 38 #[.int .i64 n] w fun e w' => e = .returned (.string (str (msgInt n))) ∧ Below w.heap.size w w' := by
  by_cases c0 : -32 ≤ n ∧ n ≤ 127
  · exact implNumb_0 n w (by omega)
  by_cases c1 : 128 ≤ n ∧ n ≤ 255
  · exact implNumb_1 n w (by omega)
  by_cases c2 : 256 ≤ n ∧ n ≤ 65535
  · exact implNumb_2 n w (by omega)
  by_cases c3 : 65536 ≤ n ∧ n ≤ 4294967295
  · exact implNumb_3 n w (by omega)
  by_cases c4 : 4294967296 ≤ n
  · exact implNumb_4 n w (by omega)
  by_cases c5 : -128 ≤ n ∧ n ≤ -33
  · exact implNumb_5 n w (by omega)
  by_cases c6 : -32768 ≤ n ∧ n ≤ -129
  · exact implNumb_6 n w (by omega)
  by_cases c7 : -2147483648 ≤ n ∧ n ≤ -32769
  · exact implNumb_7 n w (by omega)
  exact implNumb_8 n w (by omega)
end Go.Proofs.YtkajfinfphmlaaaDoor

/-
  WriteByte on a strings.Builder.
-/
namespace Go.Proofs.YtkajfinfphmlaaaDoor
open Go.RowKit
set_option linter.unusedVariables false
set_option maxRecDepth 100000
set_option linter.unusedSimpArgs false

set_option maxHeartbeats 2000000 in
theorem bldByte (B b : Nat) (bs : List Value) (c : Int) (w : World) (h : Lib.IsBuilderF 40 5 B b bs w) (hlen : bs.length + 1 ≤ 140737488355328) (hBw : B ≤ w.heap.size) :
    Calls Tryd.prog 36 #[.pointer (some ⟨b, 0, none⟩), .int .u8 c] w fun e w' => e = .returned .nilIface ∧ (Lib.BuilderAtF 40 5 B b (.pointer (some ⟨b, 0, none⟩)) (bs ++ [.int .u8 c]) w' ∧ Below B w w' ∧ Lib.OthersKept 5 (some b) w w') := by
  obtain ⟨i0, hi, hz0, hz1, hz2⟩ := info_parts infoU8
  have HC := Lib.hid (bldCheck B b bs w h)
  clear h
  go_enter Tryd.func36, Tryd.ntmps36
  go_wp2_with fail
  refine HC.out.mono ?_
  rintro e w1 ⟨rfl, h1, hb1, hk1⟩
  obtain ⟨hB, v, hbk, hown, hne⟩ := h1
  have c0 : w1.cell? ⟨b, 0, none⟩ = some (.pointer (some ⟨b, 0, none⟩)) := by rw [Lib.cell_of_heap hbk]; rfl
  have c1 : w1.cell? ⟨b, 1, none⟩ = some v := by rw [Lib.cell_of_heap hbk]; rfl
  go_wp2_with (at_builtin; refine wpList_append_ownF _ rfl _ _ 38 rfl B 5 i0 (.int .u8 0) 1 1 Tryd.underlying38 hi hz0 hz1 hz2 rfl (by decide) _ _ _ rfl (hown.alloc _) ⟨w1.heap.size, 0, none⟩ 1 1 [.int .u8 c] rfl rfl ?c1 ?c2 ?c3 ?c4 ?c5 ?_)
  case c1 =>
    intro j u hj
    match j, hj with
    | 0, hj => simp at hj; subst hj; simp [Addr.add]
  case c2 => intro u hu; simp at hu; subst hu; rfl
  case c3 => unfold maxLen; omega
  case c4 => omega
  case c5 => have := hb1.size; simp; omega
  intro v' w2 hown' hgrow _
  have hlt : b < w1.heap.size := by
    rcases Nat.lt_or_ge b w1.heap.size with h' | h'
    · exact h'
    · simp [Array.getElem?_eq_none h'] at hbk
  have hb2 : w2.heap[b]? = some (.cells #[.pointer (some ⟨b, 0, none⟩), v] 40 (0, 0)) := by
    rw [hgrow.block b (by simp; omega) (fun e => hne e.symm), Lib.alloc_old w1 _ b hlt]
    exact hbk
  have d0 : w2.cell? ⟨b, 0, none⟩ = some (.pointer (some ⟨b, 0, none⟩)) := by rw [Lib.cell_of_heap hb2]; rfl
  have d1 : w2.cell? ⟨b, 1, none⟩ = some v := by rw [Lib.cell_of_heap hb2]; rfl
  have f1 : w2.frozen? ⟨b, 1, none⟩ = false := Lib.frozen_of_heap hb2 1
  obtain ⟨g, cap, rfl⟩ : ∃ g cap, v' = .slice (some ⟨g, 0, none⟩) (bs.length + 1) cap := by
    rcases hown'.2 with ⟨_, h0⟩ | ⟨g, cap, cur, fz, hv, _⟩
    · omega
    · exact ⟨g, cap, hv⟩
  go_wp2_with fail
  go_ret
  refine ⟨rfl, ?_, ?_, ((hk1.alloc _).grown hgrow (Lib.ownsRowF_kind (hown.alloc _))).setCell ⟨b, 1, none⟩ rfl _⟩
  · exact Lib.BuilderAtF.put (T := 40) (e := 5) hB hb2 (bs' := bs ++ [.int .u8 c]) (by simpa using hown') (by decide)
  · exact ((hb1.alloc (by have := hb1.size; omega) _).grown hgrow (by have := hb1.size; simp; omega) (fun k hk => (hown.lt k hk).1)).setCell (p := ⟨b, 1, none⟩) hB _
theorem bfByte (B b : Nat) (l : List UInt8) (c : UInt8) (w : World) (h : BF B b l w) (hlen : l.length + 1 ≤ 140737488355328) (hB : B ≤ w.heap.size) :
    Calls Tryd.prog 36 #[.pointer (some ⟨b, 0, none⟩), .int .u8 (c.toNat : Int)] w fun e w' => e = .returned .nilIface ∧ BF B b (l ++ [c]) w' ∧ Below B w w' ∧ OK8 b w w' := by
  refine (bldByte B b _ _ w h (by rw [Lib.byteCells_length]; exact hlen) hB).mono ?_
  rintro e w' ⟨rfl, h1, h2, h3⟩
  exact ⟨rfl, .inr (by rw [Lib.byteCells_append]; exact h1), h2, h3⟩
end Go.Proofs.YtkajfinfphmlaaaDoor

/-
  A row of three bytes as a text.
-/
namespace Go.Proofs.YtkajfinfphmlaaaDoor
open Go.RowKit
set_option linter.unusedVariables false
set_option maxRecDepth 100000

theorem lit3_of {P : Program} (src dst e : TypeId) (hs : P.underlying src = some (.slice e)) (he : P.underlying e = some (.int .u8)) (hd : P.underlying dst = some .string) {W : World} {b : Nat} {a0 a1 a2 : Int} (h0 : W.cell? ⟨b, 0, none⟩ = some (.int .u8 a0)) (h1 : W.cell? ⟨b, 1, none⟩ = some (.int .u8 a1)) (h2 : W.cell? ⟨b, 2, none⟩ = some (.int .u8 a2)) :
    (convert src dst (.slice (some ⟨b, 0, none⟩) 3 3)).run P W = .ok (.string (str [byteI a0, byteI a1, byteI a2])) W := by
  rw [run_convert_bytes_string _ src dst e _ _ _ hs he hd]
  have hl := run_loadCells_list (P := P) W ⟨b, 0, none⟩ ([a0, a1, a2].map (Value.int .u8)) (fun j v hj => by
    match j, hj with
    | 0, hj =>
      simp at hj
      subst hj
      rw [Addr.add_lit]
      exact h0
    | 1, hj =>
      simp at hj
      subst hj
      rw [Addr.add_lit]
      exact h1
    | 2, hj =>
      simp at hj
      subst hj
      rw [Addr.add_lit]
      exact h2)
  simp only [List.length_map] at hl
  exact run_bytesToString _ _ 3 3 [a0, a1, a2] hl
theorem lit3_drew {P : Program} (src dst e : TypeId) (hs : P.underlying src = some (.slice e)) (he : P.underlying e = some (.int .u8)) (hd : P.underlying dst = some .string) (w : World) (a0 a1 a2 : Int) :
    (convert src dst (.slice (some ⟨w.heap.size, 0, none⟩) 3 3)).run P ((w.alloc (.cells #[.int .u8 a0, .int .u8 a1, .int .u8 a2] e)).drew) = .ok (.string (str [byteI a0, byteI a1, byteI a2])) ((w.alloc (.cells #[.int .u8 a0, .int .u8 a1, .int .u8 a2] e)).drew) :=
  lit3_of src dst e hs he hd (cells_newD w _ e 0 _ rfl) (cells_newD w _ e 1 _ rfl) (cells_newD w _ e 2 _ rfl)
theorem lit3_after {P : Program} (src dst e : TypeId) (hs : P.underlying src = some (.slice e)) (he : P.underlying e = some (.int .u8)) (hd : P.underlying dst = some .string) {w w1 : World} {a0 a1 a2 : Int}
    (hb : Below (w.alloc (.cells #[.int .u8 a0, .int .u8 a1, .int .u8 a2] e)).drew.heap.size (w.alloc (.cells #[.int .u8 a0, .int .u8 a1, .int .u8 a2] e)).drew w1) :
    (convert src dst (.slice (some ⟨w.heap.size, 0, none⟩) 3 3)).run P w1 = .ok (.string (str [byteI a0, byteI a1, byteI a2])) w1 := by
  have hlt : w.heap.size < (w.alloc (.cells #[.int .u8 a0, .int .u8 a1, .int .u8 a2] e)).drew.heap.size := by show w.heap.size < (w.alloc _).heap.size; simp
  exact lit3_of src dst e hs he hd ((hb.cell (p := ⟨w.heap.size, 0, none⟩) hlt).trans (cells_newD w _ e 0 _ rfl)) ((hb.cell (p := ⟨w.heap.size, 1, none⟩) hlt).trans (cells_newD w _ e 1 _ rfl)) ((hb.cell (p := ⟨w.heap.size, 2, none⟩) hlt).trans (cells_newD w _ e 2 _ rfl))
theorem lit3_after2 {P : Program} (src dst e : TypeId) (hs : P.underlying src = some (.slice e)) (he : P.underlying e = some (.int .u8)) (hd : P.underlying dst = some .string) {w w1 : World} {a0 a1 a2 : Int}
    (hb : Below (w.alloc (.cells #[.int .u8 a0, .int .u8 a1, .int .u8 a2] e)).heap.size (w.alloc (.cells #[.int .u8 a0, .int .u8 a1, .int .u8 a2] e)) w1) :
    (convert src dst (.slice (some ⟨w.heap.size, 0, none⟩) 3 3)).run P w1 = .ok (.string (str [byteI a0, byteI a1, byteI a2])) w1 := by
  have hlt : w.heap.size < (w.alloc (.cells #[.int .u8 a0, .int .u8 a1, .int .u8 a2] e)).heap.size := by simp
  exact lit3_of src dst e hs he hd ((hb.cell (p := ⟨w.heap.size, 0, none⟩) hlt).trans (cells_new w _ e 0 _ rfl)) ((hb.cell (p := ⟨w.heap.size, 1, none⟩) hlt).trans (cells_new w _ e 1 _ rfl)) ((hb.cell (p := ⟨w.heap.size, 2, none⟩) hlt).trans (cells_new w _ e 2 _ rfl))
theorem bl_21 {w w1 w2 : World} {o : Obj} (hb1 : Below ((w.alloc o).drew).heap.size ((w.alloc o).drew) w1) (hb2 : Below w1.heap.size w1 w2) : Below w.heap.size w w2 :=
  have h := bl_1 hb1
  h.trans (hb2.mono h.size)
theorem bl_22 {w w1 w2 : World} {o : Obj} (hb1 : Below w.drew.heap.size w.drew w1) (hb2 : Below (w1.alloc o).heap.size (w1.alloc o) w2) : Below w.heap.size w w2 :=
  have h := bl_2 (o := o) hb1
  h.trans (hb2.mono h.size)
theorem bl_23 {w w1 w2 : World} {o : Obj} (hb1 : Below w.drew.heap.size w.drew w1) (hb2 : Below w1.heap.size w1 w2) : Below w.heap.size w (w2.alloc o) :=
  have h : Below w.heap.size w w1 := ((Below.refl _ w).drew).trans hb1
  have h2 := h.trans (hb2.mono h.size)
  h2.alloc h2.size o
theorem bl_0 (w : World) (o : Obj) : Below w.heap.size w ((w.alloc o).drew) := ((Below.refl _ w).alloc (Nat.le_refl _) o).drew
theorem bl_24 {w w1 w2 : World} (hb1 : Below w.drew.heap.size w.drew w1) (hb2 : Below w1.heap.size w1 w2) : Below w.heap.size w w2 :=
  have h : Below w.heap.size w w1 := ((Below.refl _ w).drew).trans hb1
  h.trans (hb2.mono h.size)
theorem sum3a {P : Program} (a b c : Int) {x : ByteArray} (h : x.size ≤ 8) (W : World) : (Op.stringOp .add (str [byteI a, byteI b, byteI c]) x).run P W = .ok (.string (str [byteI a, byteI b, byteI c] ++ x)) W :=
  run_string_add_sum _ _ _ (by rw [size_str]; simp only [List.length_cons, List.length_nil]; omega)
theorem sum3b {P : Program} (a b c : Int) {x y : ByteArray} (h : x.size ≤ 8) (k : y.size ≤ 8) (W : World) : (Op.stringOp .add (str [byteI a, byteI b, byteI c] ++ x) y).run P W = .ok (.string (str [byteI a, byteI b, byteI c] ++ (x ++ y))) W := by
  rw [run_string_add_sum _ _ _ (by rw [ByteArray.size_append, size_str]; simp only [List.length_cons, List.length_nil]; omega), ByteArray.append_assoc]
end Go.Proofs.YtkajfinfphmlaaaDoor

/-
  The program's putMsg: what is said of it.
-/
namespace Go.Proofs.YtkajfinfphmlaaaDoor
open Go.RowKit
set_option linter.unusedVariables false
set_option linter.unusedSimpArgs false
set_option maxRecDepth 100000

def ImplMsgSaid (v : V) : Prop := ∀ (A : Option Addr) (cap B b : Nat) (l : List UInt8) (w : World), (∃ d, V.right d v) → v.fits → v.weight ≤ 1048576 → l.length + v.msg.length ≤ 1000000000 → Vs.at_ w 0 B v.kids A →
    B ≤ w.heap.size → BF B b l w →
    Calls Tryd.prog 23 #[.pointer (some ⟨b, 0, none⟩), v.agg A cap] w fun e w' => e = .returned (.tuple #[]) ∧ BF B b (l ++ v.msg) w' ∧ Below B w w' ∧ OK8 b w w'
/-- What holds behind j kids. -/
def MgRel (v : V) (B b : Nat) (l : List UInt8) (w : World) (j : Nat) (wr : World) : Prop :=
  BF B b (l ++ (v.ownMsg ++ Vs.msg (v.kids.take j))) wr ∧ Below B w wr ∧ OK8 b w wr
theorem mgrel_bound {v : V} {l : List UInt8} {j : Nat} (hj : j < v.kids.length) (h : l.length + v.msg.length ≤ 1000000000) : (l ++ (v.ownMsg ++ Vs.msg (v.kids.take j))).length + (v.kids[j]).msg.length ≤ 1000000000 := by
  have h1 := congrArg List.length (Vs.msg_step v.kids j hj)
  have h2 : ∀ (l : List V) i, (Vs.msg (l.take i)).length ≤ (Vs.msg l).length := by
    intro l
    induction l with
    | nil => intro i; simp
    | cons a l ih =>
      intro i
      cases i with
      | zero => simp [Vs.msg]
      | succ i => simp only [List.take_succ_cons, Vs.msg, List.length_append]; have := ih i; omega
  have h3 := h2 v.kids (j + 1)
  have h4 := congrArg List.length (V.msg_eq v)
  rw [List.length_append] at h1 h4
  rw [List.length_append, List.length_append]
  omega
theorem ownM_le {v : V} {l : List UInt8} (h : l.length + v.msg.length ≤ 1000000000) : l.length + v.ownMsg.length ≤ 1000000000 := by
  have h4 := congrArg List.length (V.msg_eq v)
  rw [List.length_append] at h4
  omega
end Go.Proofs.YtkajfinfphmlaaaDoor

/-
  The program's putMsg: kinds 0 1 2 3.
-/
namespace Go.Proofs.YtkajfinfphmlaaaDoor
open Go.RowKit
set_option linter.unusedVariables false
set_option linter.unusedSimpArgs false
set_option maxRecDepth 100000

set_option maxHeartbeats 4000000 in
theorem implMsg_0 (v : V) (hk : ∀ i (h : i < v.kids.length), ImplMsgSaid v.kids[i]) (hkd : v.k = 0) : ImplMsgSaid v := by
  intro A cap B b l w hr hf hw hlen hat hBw hB
  obtain ⟨d, hr⟩ := hr
  have hr3 := (V.right_eq _ _).1 hr
  obtain ⟨hw1, hw2, hw3⟩ := V.weight_kids v
  have hl : v.kids.length ≤ 1048576 := by omega
  have hss : v.s.size ≤ 1048576 := by omega
  have hf3 := (V.fits_eq v).1 hf
  have hbl := hB.lt
  have hbB := hB.base
  have HKR := Lib.hid (fun (i : Nat) (h : i < v.kids.length) => (Vs.right_iff _ _).1 hr3.2.2 i h)
  have HKF := Lib.hid (fun (i : Nat) (h : i < v.kids.length) => Vs.fits_get i h hf3.2.2.1)
  have HKW := Lib.hid (fun (i : Nat) (h : i < v.kids.length) => (show (v.kids[i]).weight ≤ 1048576 by have := Vs.weight_get i h; omega))
  have HL := Lib.hid hlen
  have hol := ownM_le hlen
  have HC := Lib.hid hk
  have HA := Lib.hid hat
  have HB := Lib.hid hB
  have HQ := Lib.hid (V.msg_eq v)
  have RN := Lib.hid hf3.2.2.2.2.1
  have RE := Lib.hid hf3.2.2.2.2.2
  have q0 : (v.k == 0) = true := by rw [hkd]; rfl
  have q1 : (v.k == 1) = false := by rw [hkd]; rfl
  have q2 : (v.k == 2) = false := by rw [hkd]; rfl
  have q3 : (v.k == 3) = false := by rw [hkd]; rfl
  have q4 : (v.k == 4) = false := by rw [hkd]; rfl
  have q5 : (v.k == 5) = false := by rw [hkd]; rfl
  have q6 : (v.k == 6) = false := by rw [hkd]; rfl
  have q7 : (v.k == 7) = false := by rw [hkd]; rfl
  have q8 : (v.k == 8) = false := by rw [hkd]; rfl
  have q9 : (v.k == 9) = false := by rw [hkd]; rfl
  have HO : Hid (v.ownMsg = [192]) := Lib.hid (by unfold V.ownMsg; simp [hkd])
  have hon : ([192]).length ≤ 1048616 := by have h1 := V.ownMsg_len v; rw [HO.out] at h1; omega
  have hu0 : IntKind.u64.wrap (v.kids.length : Int) = (v.kids.length : Int) := by rw [IntKind.wrap_u64]; omega
  have hu1 : IntKind.u64.wrap ((v.kids.length : Int) / 2) = (v.kids.length : Int) / 2 := by rw [IntKind.wrap_u64]; omega
  clear hk hat hB hr hr3 hf hf3 hlen hkd
  have hb0 : Below w.heap.size w (w.alloc (.cells #[.int .i64 v.k, .int .i64 v.n, .int .i64 v.e, .string v.s, .slice A v.kids.length cap] 29)) := (Below.refl _ w).alloc (Nat.le_refl _) _
  obtain ⟨w0, hw0⟩ : ∃ w0, w0 = w.alloc (.cells #[.int .i64 v.k, .int .i64 v.n, .int .i64 v.e, .string v.s, .slice A v.kids.length cap] 29) := ⟨_, rfl⟩
  have B0 : Blk w0 w.heap.size 29 #[.int .i64 v.k, .int .i64 v.n, .int .i64 v.e, .string v.s, .slice A v.kids.length cap] := by rw [hw0]; exact Blk.new w _ _
  rw [← hw0] at hb0
  have k0 : OK8 b w w0 := (OK8.refl b w).below hb0
  have F0 : BF B b l w0 := HB.out.below hb0
  have hs0 := hb0.size
  have lv := B0.lt
  have HF0 := Lib.hid F0
  have HK0 := Lib.hid k0
  have HB0 := Lib.hid hb0
  have HV0 := Lib.hid B0
  obtain ⟨p0, p1, p2, p3, p4⟩ := B0.five
  clear F0 k0 hb0 B0
  unfold V.agg
  go_enter Tryd.func23, Tryd.ntmps23
  go_wp2_with fail
  rw [← hw0]
  clear hw0
  have HP := bfByte B b l 192 w0 HF0.out (by omega) (by omega)
  rw [show (((192 : UInt8).toNat : Nat) : Int) = 192 from rfl] at HP
  refine HP.mono ?_
  rintro e w2 ⟨rfl, F2, hb2, k2⟩
  rw [← HO.out] at F2
  have hbx : Below w0.heap.size w0 w0 := Below.refl _ _
  clear HP p0 p1 p2 p3 p4
  have B2 := k2.blk (HV0.out.below hbx lv) (by omega) vt_ne
  have Kw : OK8 b w w2 := (HK0.out.below (hbx.mono (Nat.le_refl _))).trans k2
  have Bw : Below B w w2 := ((HB0.out.trans (hbx.mono hs0)).mono hBw).trans hb2
  have HF2 : Hid (BF B b (l ++ v.ownMsg) w2) := Lib.hid F2
  have HKw := Lib.hid Kw
  have HBw := Lib.hid Bw
  obtain ⟨p0, p1, p2, p3, p4⟩ := B2.five
  clear F2 Kw Bw B2 k2 hb2 hbx
  go_wp2_with fail
  go_loopw [93] (fun i wr => ∃ j : Nat, j ≤ v.kids.length ∧ i = .int .i64 j ∧ MgRel v B b l w j wr) (fun i _ => v.kids.length - (intOf i).toNat)
  case atStart => exact ⟨0, Nat.zero_le _, rfl, by simpa [Vs.msg] using HF2.out, HBw.out, HKw.out⟩
  case round =>
    obtain ⟨j, hj, rfl, hr⟩ := hrel
    have HR := Lib.hid hr
    have hszr : B ≤ wr.heap.size := Nat.le_trans hBw hr.2.1.size
    clear hr p0 p1 p2 p3 p4
    by_cases hlt : j < v.kids.length
    · obtain ⟨bb, off, A', cap', rfl, g1, g2, g3, ⟨c0, c1, c2, c3, c4⟩, g5⟩ := Vs.at_get j hlt (Vs.at_below HA.out HR.out.2.1 (Nat.le_refl _))
      have G5 := Lib.hid g5
      have hbbl : bb < wr.heap.size := by omega
      clear g5
      go_wp2_with fail
      refine (HC.out j hlt A' cap' B b (l ++ (v.ownMsg ++ Vs.msg (v.kids.take j))) _ ⟨_, HKR.out j hlt⟩ (HKF.out j hlt) (HKW.out j hlt) (mgrel_bound hlt HL.out) (Vs.at_alloc G5.out hszr _) (by simp; omega) (HR.out.1.alloc _)).mono ?_
      rintro e w3 ⟨rfl, F3, b3, k3⟩
      have hrel : MgRel v B b l w (j + 1) w3 := ⟨by rw [Vs.msg_step v.kids j hlt]; simpa using F3, (HR.out.2.1.alloc hszr _).trans b3, (HR.out.2.2.alloc _).trans k3⟩
      have HREL := Lib.hid hrel
      clear F3 b3 k3 hrel c0 c1 c2 c3 c4
      go_wp2_with fail
      go_roundw
      case rel => exact ⟨j + 1, by omega, by go_num, HREL.out⟩
      case measure => simp [intOf]; omega
    · obtain rfl : j = v.kids.length := by omega
      go_wp2_with fail
      go_end0
      have h := HR.out
      unfold MgRel at h
      rw [List.take_length, ← HQ.out] at h
      exact ⟨rfl, h⟩

set_option maxHeartbeats 4000000 in
theorem implMsg_1 (v : V) (hk : ∀ i (h : i < v.kids.length), ImplMsgSaid v.kids[i]) (hkd : v.k = 1) : ImplMsgSaid v := by
  intro A cap B b l w hr hf hw hlen hat hBw hB
  obtain ⟨d, hr⟩ := hr
  have hr3 := (V.right_eq _ _).1 hr
  obtain ⟨hw1, hw2, hw3⟩ := V.weight_kids v
  have hl : v.kids.length ≤ 1048576 := by omega
  have hss : v.s.size ≤ 1048576 := by omega
  have hf3 := (V.fits_eq v).1 hf
  have hbl := hB.lt
  have hbB := hB.base
  have HKR := Lib.hid (fun (i : Nat) (h : i < v.kids.length) => (Vs.right_iff _ _).1 hr3.2.2 i h)
  have HKF := Lib.hid (fun (i : Nat) (h : i < v.kids.length) => Vs.fits_get i h hf3.2.2.1)
  have HKW := Lib.hid (fun (i : Nat) (h : i < v.kids.length) => (show (v.kids[i]).weight ≤ 1048576 by have := Vs.weight_get i h; omega))
  have HL := Lib.hid hlen
  have hol := ownM_le hlen
  have HC := Lib.hid hk
  have HA := Lib.hid hat
  have HB := Lib.hid hB
  have HQ := Lib.hid (V.msg_eq v)
  have RN := Lib.hid hf3.2.2.2.2.1
  have RE := Lib.hid hf3.2.2.2.2.2
  have q0 : (v.k == 0) = false := by rw [hkd]; rfl
  have q1 : (v.k == 1) = true := by rw [hkd]; rfl
  have q2 : (v.k == 2) = false := by rw [hkd]; rfl
  have q3 : (v.k == 3) = false := by rw [hkd]; rfl
  have q4 : (v.k == 4) = false := by rw [hkd]; rfl
  have q5 : (v.k == 5) = false := by rw [hkd]; rfl
  have q6 : (v.k == 6) = false := by rw [hkd]; rfl
  have q7 : (v.k == 7) = false := by rw [hkd]; rfl
  have q8 : (v.k == 8) = false := by rw [hkd]; rfl
  have q9 : (v.k == 9) = false := by rw [hkd]; rfl
  have HO : Hid (v.ownMsg = [194]) := Lib.hid (by unfold V.ownMsg; simp [hkd])
  have hon : ([194]).length ≤ 1048616 := by have h1 := V.ownMsg_len v; rw [HO.out] at h1; omega
  have hu0 : IntKind.u64.wrap (v.kids.length : Int) = (v.kids.length : Int) := by rw [IntKind.wrap_u64]; omega
  have hu1 : IntKind.u64.wrap ((v.kids.length : Int) / 2) = (v.kids.length : Int) / 2 := by rw [IntKind.wrap_u64]; omega
  clear hk hat hB hr hr3 hf hf3 hlen hkd
  have hb0 : Below w.heap.size w (w.alloc (.cells #[.int .i64 v.k, .int .i64 v.n, .int .i64 v.e, .string v.s, .slice A v.kids.length cap] 29)) := (Below.refl _ w).alloc (Nat.le_refl _) _
  obtain ⟨w0, hw0⟩ : ∃ w0, w0 = w.alloc (.cells #[.int .i64 v.k, .int .i64 v.n, .int .i64 v.e, .string v.s, .slice A v.kids.length cap] 29) := ⟨_, rfl⟩
  have B0 : Blk w0 w.heap.size 29 #[.int .i64 v.k, .int .i64 v.n, .int .i64 v.e, .string v.s, .slice A v.kids.length cap] := by rw [hw0]; exact Blk.new w _ _
  rw [← hw0] at hb0
  have k0 : OK8 b w w0 := (OK8.refl b w).below hb0
  have F0 : BF B b l w0 := HB.out.below hb0
  have hs0 := hb0.size
  have lv := B0.lt
  have HF0 := Lib.hid F0
  have HK0 := Lib.hid k0
  have HB0 := Lib.hid hb0
  have HV0 := Lib.hid B0
  obtain ⟨p0, p1, p2, p3, p4⟩ := B0.five
  clear F0 k0 hb0 B0
  unfold V.agg
  go_enter Tryd.func23, Tryd.ntmps23
  go_wp2_with fail
  rw [← hw0]
  clear hw0
  have HP := bfByte B b l 194 w0 HF0.out (by omega) (by omega)
  rw [show (((194 : UInt8).toNat : Nat) : Int) = 194 from rfl] at HP
  refine HP.mono ?_
  rintro e w2 ⟨rfl, F2, hb2, k2⟩
  rw [← HO.out] at F2
  have hbx : Below w0.heap.size w0 w0 := Below.refl _ _
  clear HP p0 p1 p2 p3 p4
  have B2 := k2.blk (HV0.out.below hbx lv) (by omega) vt_ne
  have Kw : OK8 b w w2 := (HK0.out.below (hbx.mono (Nat.le_refl _))).trans k2
  have Bw : Below B w w2 := ((HB0.out.trans (hbx.mono hs0)).mono hBw).trans hb2
  have HF2 : Hid (BF B b (l ++ v.ownMsg) w2) := Lib.hid F2
  have HKw := Lib.hid Kw
  have HBw := Lib.hid Bw
  obtain ⟨p0, p1, p2, p3, p4⟩ := B2.five
  clear F2 Kw Bw B2 k2 hb2 hbx
  go_wp2_with fail
  go_loopw [93] (fun i wr => ∃ j : Nat, j ≤ v.kids.length ∧ i = .int .i64 j ∧ MgRel v B b l w j wr) (fun i _ => v.kids.length - (intOf i).toNat)
  case atStart => exact ⟨0, Nat.zero_le _, rfl, by simpa [Vs.msg] using HF2.out, HBw.out, HKw.out⟩
  case round =>
    obtain ⟨j, hj, rfl, hr⟩ := hrel
    have HR := Lib.hid hr
    have hszr : B ≤ wr.heap.size := Nat.le_trans hBw hr.2.1.size
    clear hr p0 p1 p2 p3 p4
    by_cases hlt : j < v.kids.length
    · obtain ⟨bb, off, A', cap', rfl, g1, g2, g3, ⟨c0, c1, c2, c3, c4⟩, g5⟩ := Vs.at_get j hlt (Vs.at_below HA.out HR.out.2.1 (Nat.le_refl _))
      have G5 := Lib.hid g5
      have hbbl : bb < wr.heap.size := by omega
      clear g5
      go_wp2_with fail
      refine (HC.out j hlt A' cap' B b (l ++ (v.ownMsg ++ Vs.msg (v.kids.take j))) _ ⟨_, HKR.out j hlt⟩ (HKF.out j hlt) (HKW.out j hlt) (mgrel_bound hlt HL.out) (Vs.at_alloc G5.out hszr _) (by simp; omega) (HR.out.1.alloc _)).mono ?_
      rintro e w3 ⟨rfl, F3, b3, k3⟩
      have hrel : MgRel v B b l w (j + 1) w3 := ⟨by rw [Vs.msg_step v.kids j hlt]; simpa using F3, (HR.out.2.1.alloc hszr _).trans b3, (HR.out.2.2.alloc _).trans k3⟩
      have HREL := Lib.hid hrel
      clear F3 b3 k3 hrel c0 c1 c2 c3 c4
      go_wp2_with fail
      go_roundw
      case rel => exact ⟨j + 1, by omega, by go_num, HREL.out⟩
      case measure => simp [intOf]; omega
    · obtain rfl : j = v.kids.length := by omega
      go_wp2_with fail
      go_end0
      have h := HR.out
      unfold MgRel at h
      rw [List.take_length, ← HQ.out] at h
      exact ⟨rfl, h⟩

set_option maxHeartbeats 4000000 in
theorem implMsg_2 (v : V) (hk : ∀ i (h : i < v.kids.length), ImplMsgSaid v.kids[i]) (hkd : v.k = 2) : ImplMsgSaid v := by
  intro A cap B b l w hr hf hw hlen hat hBw hB
  obtain ⟨d, hr⟩ := hr
  have hr3 := (V.right_eq _ _).1 hr
  obtain ⟨hw1, hw2, hw3⟩ := V.weight_kids v
  have hl : v.kids.length ≤ 1048576 := by omega
  have hss : v.s.size ≤ 1048576 := by omega
  have hf3 := (V.fits_eq v).1 hf
  have hbl := hB.lt
  have hbB := hB.base
  have HKR := Lib.hid (fun (i : Nat) (h : i < v.kids.length) => (Vs.right_iff _ _).1 hr3.2.2 i h)
  have HKF := Lib.hid (fun (i : Nat) (h : i < v.kids.length) => Vs.fits_get i h hf3.2.2.1)
  have HKW := Lib.hid (fun (i : Nat) (h : i < v.kids.length) => (show (v.kids[i]).weight ≤ 1048576 by have := Vs.weight_get i h; omega))
  have HL := Lib.hid hlen
  have hol := ownM_le hlen
  have HC := Lib.hid hk
  have HA := Lib.hid hat
  have HB := Lib.hid hB
  have HQ := Lib.hid (V.msg_eq v)
  have RN := Lib.hid hf3.2.2.2.2.1
  have RE := Lib.hid hf3.2.2.2.2.2
  have q0 : (v.k == 0) = false := by rw [hkd]; rfl
  have q1 : (v.k == 1) = false := by rw [hkd]; rfl
  have q2 : (v.k == 2) = true := by rw [hkd]; rfl
  have q3 : (v.k == 3) = false := by rw [hkd]; rfl
  have q4 : (v.k == 4) = false := by rw [hkd]; rfl
  have q5 : (v.k == 5) = false := by rw [hkd]; rfl
  have q6 : (v.k == 6) = false := by rw [hkd]; rfl
  have q7 : (v.k == 7) = false := by rw [hkd]; rfl
  have q8 : (v.k == 8) = false := by rw [hkd]; rfl
  have q9 : (v.k == 9) = false := by rw [hkd]; rfl
  have HO : Hid (v.ownMsg = [195]) := Lib.hid (by unfold V.ownMsg; simp [hkd])
  have hon : ([195]).length ≤ 1048616 := by have h1 := V.ownMsg_len v; rw [HO.out] at h1; omega
  have hu0 : IntKind.u64.wrap (v.kids.length : Int) = (v.kids.length : Int) := by rw [IntKind.wrap_u64]; omega
  have hu1 : IntKind.u64.wrap ((v.kids.length : Int) / 2) = (v.kids.length : Int) / 2 := by rw [IntKind.wrap_u64]; omega
  clear hk hat hB hr hr3 hf hf3 hlen hkd
  have hb0 : Below w.heap.size w (w.alloc (.cells #[.int .i64 v.k, .int .i64 v.n, .int .i64 v.e, .string v.s, .slice A v.kids.length cap] 29)) := (Below.refl _ w).alloc (Nat.le_refl _) _
  obtain ⟨w0, hw0⟩ : ∃ w0, w0 = w.alloc (.cells #[.int .i64 v.k, .int .i64 v.n, .int .i64 v.e, .string v.s, .slice A v.kids.length cap] 29) := ⟨_, rfl⟩
  have B0 : Blk w0 w.heap.size 29 #[.int .i64 v.k, .int .i64 v.n, .int .i64 v.e, .string v.s, .slice A v.kids.length cap] := by rw [hw0]; exact Blk.new w _ _
  rw [← hw0] at hb0
  have k0 : OK8 b w w0 := (OK8.refl b w).below hb0
  have F0 : BF B b l w0 := HB.out.below hb0
  have hs0 := hb0.size
  have lv := B0.lt
  have HF0 := Lib.hid F0
  have HK0 := Lib.hid k0
  have HB0 := Lib.hid hb0
  have HV0 := Lib.hid B0
  obtain ⟨p0, p1, p2, p3, p4⟩ := B0.five
  clear F0 k0 hb0 B0
  unfold V.agg
  go_enter Tryd.func23, Tryd.ntmps23
  go_wp2_with fail
  rw [← hw0]
  clear hw0
  have HP := bfByte B b l 195 w0 HF0.out (by omega) (by omega)
  rw [show (((195 : UInt8).toNat : Nat) : Int) = 195 from rfl] at HP
  refine HP.mono ?_
  rintro e w2 ⟨rfl, F2, hb2, k2⟩
  rw [← HO.out] at F2
  have hbx : Below w0.heap.size w0 w0 := Below.refl _ _
  clear HP p0 p1 p2 p3 p4
  have B2 := k2.blk (HV0.out.below hbx lv) (by omega) vt_ne
  have Kw : OK8 b w w2 := (HK0.out.below (hbx.mono (Nat.le_refl _))).trans k2
  have Bw : Below B w w2 := ((HB0.out.trans (hbx.mono hs0)).mono hBw).trans hb2
  have HF2 : Hid (BF B b (l ++ v.ownMsg) w2) := Lib.hid F2
  have HKw := Lib.hid Kw
  have HBw := Lib.hid Bw
  obtain ⟨p0, p1, p2, p3, p4⟩ := B2.five
  clear F2 Kw Bw B2 k2 hb2 hbx
  go_wp2_with fail
  go_loopw [93] (fun i wr => ∃ j : Nat, j ≤ v.kids.length ∧ i = .int .i64 j ∧ MgRel v B b l w j wr) (fun i _ => v.kids.length - (intOf i).toNat)
  case atStart => exact ⟨0, Nat.zero_le _, rfl, by simpa [Vs.msg] using HF2.out, HBw.out, HKw.out⟩
  case round =>
    obtain ⟨j, hj, rfl, hr⟩ := hrel
    have HR := Lib.hid hr
    have hszr : B ≤ wr.heap.size := Nat.le_trans hBw hr.2.1.size
    clear hr p0 p1 p2 p3 p4
    by_cases hlt : j < v.kids.length
    · obtain ⟨bb, off, A', cap', rfl, g1, g2, g3, ⟨c0, c1, c2, c3, c4⟩, g5⟩ := Vs.at_get j hlt (Vs.at_below HA.out HR.out.2.1 (Nat.le_refl _))
      have G5 := Lib.hid g5
      have hbbl : bb < wr.heap.size := by omega
      clear g5
      go_wp2_with fail
      refine (HC.out j hlt A' cap' B b (l ++ (v.ownMsg ++ Vs.msg (v.kids.take j))) _ ⟨_, HKR.out j hlt⟩ (HKF.out j hlt) (HKW.out j hlt) (mgrel_bound hlt HL.out) (Vs.at_alloc G5.out hszr _) (by simp; omega) (HR.out.1.alloc _)).mono ?_
      rintro e w3 ⟨rfl, F3, b3, k3⟩
      have hrel : MgRel v B b l w (j + 1) w3 := ⟨by rw [Vs.msg_step v.kids j hlt]; simpa using F3, (HR.out.2.1.alloc hszr _).trans b3, (HR.out.2.2.alloc _).trans k3⟩
      have HREL := Lib.hid hrel
      clear F3 b3 k3 hrel c0 c1 c2 c3 c4
      go_wp2_with fail
      go_roundw
      case rel => exact ⟨j + 1, by omega, by go_num, HREL.out⟩
      case measure => simp [intOf]; omega
    · obtain rfl : j = v.kids.length := by omega
      go_wp2_with fail
      go_end0
      have h := HR.out
      unfold MgRel at h
      rw [List.take_length, ← HQ.out] at h
      exact ⟨rfl, h⟩

set_option maxHeartbeats 4000000 in
theorem implMsg_3 (v : V) (hk : ∀ i (h : i < v.kids.length), ImplMsgSaid v.kids[i]) (hkd : v.k = 3) : ImplMsgSaid v := by
  intro A cap B b l w hr hf hw hlen hat hBw hB
  obtain ⟨d, hr⟩ := hr
  have hr3 := (V.right_eq _ _).1 hr
  obtain ⟨hw1, hw2, hw3⟩ := V.weight_kids v
  have hl : v.kids.length ≤ 1048576 := by omega
  have hss : v.s.size ≤ 1048576 := by omega
  have hf3 := (V.fits_eq v).1 hf
  have hbl := hB.lt
  have hbB := hB.base
  have HKR := Lib.hid (fun (i : Nat) (h : i < v.kids.length) => (Vs.right_iff _ _).1 hr3.2.2 i h)
  have HKF := Lib.hid (fun (i : Nat) (h : i < v.kids.length) => Vs.fits_get i h hf3.2.2.1)
  have HKW := Lib.hid (fun (i : Nat) (h : i < v.kids.length) => (show (v.kids[i]).weight ≤ 1048576 by have := Vs.weight_get i h; omega))
  have HL := Lib.hid hlen
  have hol := ownM_le hlen
  have HC := Lib.hid hk
  have HA := Lib.hid hat
  have HB := Lib.hid hB
  have HQ := Lib.hid (V.msg_eq v)
  have RN := Lib.hid hf3.2.2.2.2.1
  have RE := Lib.hid hf3.2.2.2.2.2
  have q0 : (v.k == 0) = false := by rw [hkd]; rfl
  have q1 : (v.k == 1) = false := by rw [hkd]; rfl
  have q2 : (v.k == 2) = false := by rw [hkd]; rfl
  have q3 : (v.k == 3) = true := by rw [hkd]; rfl
  have q4 : (v.k == 4) = false := by rw [hkd]; rfl
  have q5 : (v.k == 5) = false := by rw [hkd]; rfl
  have q6 : (v.k == 6) = false := by rw [hkd]; rfl
  have q7 : (v.k == 7) = false := by rw [hkd]; rfl
  have q8 : (v.k == 8) = false := by rw [hkd]; rfl
  have q9 : (v.k == 9) = false := by rw [hkd]; rfl
  have HO : Hid (v.ownMsg = msgInt v.n) := Lib.hid (by unfold V.ownMsg; simp [hkd])
  have hon : (msgInt v.n).length ≤ 1048616 := by have h1 := V.ownMsg_len v; rw [HO.out] at h1; omega
  have hu0 : IntKind.u64.wrap (v.kids.length : Int) = (v.kids.length : Int) := by rw [IntKind.wrap_u64]; omega
  have hu1 : IntKind.u64.wrap ((v.kids.length : Int) / 2) = (v.kids.length : Int) / 2 := by rw [IntKind.wrap_u64]; omega
  clear hk hat hB hr hr3 hf hf3 hlen hkd
  have hb0 : Below w.heap.size w (w.alloc (.cells #[.int .i64 v.k, .int .i64 v.n, .int .i64 v.e, .string v.s, .slice A v.kids.length cap] 29)) := (Below.refl _ w).alloc (Nat.le_refl _) _
  obtain ⟨w0, hw0⟩ : ∃ w0, w0 = w.alloc (.cells #[.int .i64 v.k, .int .i64 v.n, .int .i64 v.e, .string v.s, .slice A v.kids.length cap] 29) := ⟨_, rfl⟩
  have B0 : Blk w0 w.heap.size 29 #[.int .i64 v.k, .int .i64 v.n, .int .i64 v.e, .string v.s, .slice A v.kids.length cap] := by rw [hw0]; exact Blk.new w _ _
  rw [← hw0] at hb0
  have k0 : OK8 b w w0 := (OK8.refl b w).below hb0
  have F0 : BF B b l w0 := HB.out.below hb0
  have hs0 := hb0.size
  have lv := B0.lt
  have HF0 := Lib.hid F0
  have HK0 := Lib.hid k0
  have HB0 := Lib.hid hb0
  have HV0 := Lib.hid B0
  obtain ⟨p0, p1, p2, p3, p4⟩ := B0.five
  clear F0 k0 hb0 B0
  unfold V.agg
  go_enter Tryd.func23, Tryd.ntmps23
  go_wp2_with fail
  rw [← hw0]
  clear hw0
  refine (implMsgInt v.n w0 RN.out).mono ?_
  rintro e w1 ⟨rfl, hbx⟩
  go_wp2_with fail
  have hBx : B ≤ w1.heap.size := by have := hbx.size; omega
  have hsl : l.length + (str (msgInt v.n)).size ≤ 140737488355328 := by rw [size_str]; have := congrArg List.length HO.out; omega
  refine (bfWrite B b l _ w1 (HF0.out.below hbx) hsl hBx).mono ?_
  rintro e w2 ⟨rfl, F2, hb2, k2⟩
  rw [data_str, ← HO.out] at F2
  clear hsl p0 p1 p2 p3 p4
  have B2 := k2.blk (HV0.out.below hbx lv) (by omega) vt_ne
  have Kw : OK8 b w w2 := (HK0.out.below (hbx.mono (Nat.le_refl _))).trans k2
  have Bw : Below B w w2 := ((HB0.out.trans (hbx.mono hs0)).mono hBw).trans hb2
  have HF2 : Hid (BF B b (l ++ v.ownMsg) w2) := Lib.hid F2
  have HKw := Lib.hid Kw
  have HBw := Lib.hid Bw
  obtain ⟨p0, p1, p2, p3, p4⟩ := B2.five
  clear F2 Kw Bw B2 k2 hb2 hbx
  go_wp2_with fail
  go_loopw [93] (fun i wr => ∃ j : Nat, j ≤ v.kids.length ∧ i = .int .i64 j ∧ MgRel v B b l w j wr) (fun i _ => v.kids.length - (intOf i).toNat)
  case atStart => exact ⟨0, Nat.zero_le _, rfl, by simpa [Vs.msg] using HF2.out, HBw.out, HKw.out⟩
  case round =>
    obtain ⟨j, hj, rfl, hr⟩ := hrel
    have HR := Lib.hid hr
    have hszr : B ≤ wr.heap.size := Nat.le_trans hBw hr.2.1.size
    clear hr p0 p1 p2 p3 p4
    by_cases hlt : j < v.kids.length
    · obtain ⟨bb, off, A', cap', rfl, g1, g2, g3, ⟨c0, c1, c2, c3, c4⟩, g5⟩ := Vs.at_get j hlt (Vs.at_below HA.out HR.out.2.1 (Nat.le_refl _))
      have G5 := Lib.hid g5
      have hbbl : bb < wr.heap.size := by omega
      clear g5
      go_wp2_with fail
      refine (HC.out j hlt A' cap' B b (l ++ (v.ownMsg ++ Vs.msg (v.kids.take j))) _ ⟨_, HKR.out j hlt⟩ (HKF.out j hlt) (HKW.out j hlt) (mgrel_bound hlt HL.out) (Vs.at_alloc G5.out hszr _) (by simp; omega) (HR.out.1.alloc _)).mono ?_
      rintro e w3 ⟨rfl, F3, b3, k3⟩
      have hrel : MgRel v B b l w (j + 1) w3 := ⟨by rw [Vs.msg_step v.kids j hlt]; simpa using F3, (HR.out.2.1.alloc hszr _).trans b3, (HR.out.2.2.alloc _).trans k3⟩
      have HREL := Lib.hid hrel
      clear F3 b3 k3 hrel c0 c1 c2 c3 c4
      go_wp2_with fail
      go_roundw
      case rel => exact ⟨j + 1, by omega, by go_num, HREL.out⟩
      case measure => simp [intOf]; omega
    · obtain rfl : j = v.kids.length := by omega
      go_wp2_with fail
      go_end0
      have h := HR.out
      unfold MgRel at h
      rw [List.take_length, ← HQ.out] at h
      exact ⟨rfl, h⟩

end Go.Proofs.YtkajfinfphmlaaaDoor
