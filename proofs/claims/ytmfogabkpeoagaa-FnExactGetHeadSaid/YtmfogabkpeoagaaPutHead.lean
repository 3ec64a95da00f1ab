/-
  PutHead: the head of a CBOR item.
-/
import Derived.Test.YtmfogabkpeoagaaEnc
import Derived.Test.YtmfogabkpeoagaaBigS
import Derived.Test.YtmfogabkpeoagaaPutWideI
import Derived.Deep.RegionWith
namespace Go.Proofs.Ytmfogabkpeoagaa
open Go.RowKit
set_option linter.unusedVariables false

/-- The head of major type M and number n. -/
def headL (M n : Nat) : List UInt8 :=
  if n < 24 then wide (32 * M + n : Nat) 1 else if n < 256 then wide (32 * M + 24 : Nat) 1 ++ wide n 1 else if n < 65536 then wide (32 * M + 25 : Nat) 1 ++ wide n 2
  else if n < 4294967296 then wide (32 * M + 26 : Nat) 1 ++ wide n 4 else wide (32 * M + 27 : Nat) 1 ++ wide n 8
/-- What PutHead hands back. -/
def putHeadL (M : Int) (n : Nat) : List UInt8 := if 0 ≤ M ∧ M ≤ 7 then headL M.toNat n else []
theorem size_str (l : List UInt8) : (str l).size = l.length := by simp [str, ByteArray.size]
theorem str_add (a b : List UInt8) : str a ++ str b = str (a ++ b) := by
  apply ByteArray.ext
  simp [str]
theorem str_sum {P : Program} (a b : List UInt8) (h : a.length + b.length ≤ 9223372036854775807) (w : World) : (Op.stringOp .add (str a) (str b)).run P w = .ok (.string (str (a ++ b))) w := by
  rw [run_string_add_sum _ _ _ (by rw [size_str, size_str]; exact h), str_add]
theorem wide_sum {P : Program} (x y : Int) (i j : Nat) (h : i + j ≤ 16) (w : World) : (Op.stringOp .add (str (wide x i)) (str (wide y j))).run P w = .ok (.string (str (wide x i ++ wide y j))) w :=
  str_sum _ _ (by rw [wide_len, wide_len]; omega) w
/-- A text under a name, which the walk doesn't look into. -/
def Named (x : ByteArray) (l : List UInt8) : Prop := x = str l
theorem Named.mk {x : ByteArray} {l : List UInt8} (h : x = str l) : Named x l := h
theorem bigAt (x : Int) (n m : Nat) (hx : x = n) (w : World) (hn : n < 18446744073709551616) (hm : m ≤ 8) :
    Calls Try.prog 21 #[.int .u64 x, .int .i64 m] w fun e w' => ∃ y, e = .returned (.string y) ∧ Named y (wide n m) ∧ y.size ≤ 8 ∧ Below w.heap.size w w' := by
  subst hx
  refine (specL05Big n m w hn hm).mono ?_
  rintro e w' ⟨rfl, hb⟩
  exact ⟨_, rfl, rfl, by rw [size_str, wide_len]; exact hm, hb⟩
theorem named_add {x y : ByteArray} {a b : List UInt8} (h1 : Named x a) (h2 : Named y b) : x ++ y = str (a ++ b) := by
  unfold Named at h1 h2
  rw [h1, h2, str_add]
theorem wide_one (n : Nat) (h : n < 256) : wide (n : Int) 1 = [UInt8.ofNat (n : Int).toNat] := by
  unfold wide byteOf
  simp only [List.range_succ, List.range_zero, List.nil_append, List.reverse_cons, List.reverse_nil, List.map_cons, List.map_nil, Int.pow_zero, Int.ediv_one]
  congr 2
  omega
theorem lit1_of {P : Program} (src dst e : TypeId) (hs : P.underlying src = some (.slice e)) (he : P.underlying e = some (.int .u8)) (hd : P.underlying dst = some .string) {W : World} {b : Nat} {a : Int} (hc : W.cell? ⟨b, 0, none⟩ = some (.int .u8 a)) :
    (convert src dst (.slice (some ⟨b, 0, none⟩) 1 1)).run P W = .ok (.string (str [byteI a])) W := by
  rw [run_convert_bytes_string _ src dst e _ _ _ hs he hd]
  have hl := run_loadCells_list (P := P) W ⟨b, 0, none⟩ ([a].map (Value.int .u8)) (fun j v hj => by
    match j, hj with
    | 0, hj =>
      simp at hj
      subst hj
      rw [Addr.add_lit]
      exact hc)
  simp only [List.length_map] at hl
  exact run_bytesToString _ _ 1 1 [a] hl
theorem lit1_drew {P : Program} (src dst e : TypeId) (hs : P.underlying src = some (.slice e)) (he : P.underlying e = some (.int .u8)) (hd : P.underlying dst = some .string) (w : World) (a : Int) :
    (convert src dst (.slice (some ⟨w.heap.size, 0, none⟩) 1 1)).run P ((w.alloc (.cells #[.int .u8 a] e)).drew) = .ok (.string (str [byteI a])) ((w.alloc (.cells #[.int .u8 a] e)).drew) :=
  lit1_of src dst e hs he hd (cells_newD w #[.int .u8 a] e 0 _ rfl)
theorem lit1_after {P : Program} (src dst e : TypeId) (hs : P.underlying src = some (.slice e)) (he : P.underlying e = some (.int .u8)) (hd : P.underlying dst = some .string) {w w1 : World} {a : Int}
    (hb : Below (w.alloc (.cells #[.int .u8 a] e)).drew.heap.size (w.alloc (.cells #[.int .u8 a] e)).drew w1) :
    (convert src dst (.slice (some ⟨w.heap.size, 0, none⟩) 1 1)).run P w1 = .ok (.string (str [byteI a])) w1 :=
  lit1_of src dst e hs he hd ((hb.cell (p := ⟨w.heap.size, 0, none⟩) (by show w.heap.size < (w.alloc _).heap.size; simp)).trans (cells_newD w #[.int .u8 a] e 0 _ rfl))
theorem lit_named (M c : Nat) (x : Int) (h : x = ((32 * M + c : Nat) : Int)) (hlt : 32 * M + c < 256) : Named (str [byteI x]) (wide ((32 * M + c : Nat) : Int) 1) := by
  subst h
  exact congrArg str (wide_one _ hlt).symm
theorem bl_1 {w w1 : World} {o : Obj} (hb1 : Below ((w.alloc o).drew).heap.size ((w.alloc o).drew) w1) : Below w.heap.size w w1 :=
  (((Below.refl _ w).alloc (Nat.le_refl _) o).drew).trans (hb1.mono (by show w.heap.size ≤ (w.alloc o).heap.size; simp))
theorem bl_2 {w w1 : World} {o : Obj} (hb1 : Below w.drew.heap.size w.drew w1) : Below w.heap.size w (w1.alloc o) :=
  have h : Below w.heap.size w w1 := ((Below.refl _ w).drew).trans hb1
  h.alloc h.size o
theorem wide_wrap (n m : Nat) (hm : m ≤ 8) : wide (wrap64 (n : Int)) m = wide (n : Int) m := by
  rw [← wide_mod _ m hm, ← wide_mod (n : Int) m hm]
  congr 1
  rw [wrap64_eq]; omega
theorem wideAt (x : Int) (n m : Nat) (hx : x = IntKind.i64.wrap (n : Int)) (w : World) (h1 : 1 ≤ m) (hm : m ≤ 8) :
    Calls Try.prog 24 #[.int .i64 x, .int .i64 m] w fun e w' => ∃ y, e = .returned (.string y) ∧ Named y (wide n m) ∧ y.size ≤ 8 ∧ Below w.heap.size w w' := by
  subst hx
  rw [IntWalk.i64_left]
  refine (implPutWide_yes _ m w (by rw [wrap64_eq]; omega) h1 hm).mono ?_
  rintro e w' ⟨rfl, hb⟩
  exact ⟨_, rfl, by rw [wide_wrap n m hm]; rfl, by rw [size_str, wide_len]; exact hm, hb⟩

set_option maxHeartbeats 1000000 in
set_option maxRecDepth 100000 in
theorem specPutHead_0 (M n : Nat) (w : World) (hM : M < 8) (h : n < 24) :
    Calls Try.prog 17 #[.int .i64 M, .int .u64 n] w fun e w' => e = .returned (.string (str (wide (32 * M + n : Nat) 1))) ∧ Below w.heap.size w w' := by
  have hd : decide ((M : Int) ≤ 7) = true := by simp; omega
  have hd1 : decide ((n : Int) < 24) = true := by simp; omega
  go_enter Try.func17, Try.ntmps17
  go_wp2_with (go_at_call 20; go_in)
  refine (bigAt _ (32 * M + n) 1 (by go_num) _ (by omega) (by omega)).mono ?_
  rintro e w1 ⟨x1, rfl, H1, hs1, hb1⟩
  go_wp2_with fail
  go_ret
  exact ⟨ret_eq (congrArg Value.string H1), hb1⟩

set_option maxHeartbeats 1000000 in
set_option maxRecDepth 100000 in
theorem specPutHead_1 (M n : Nat) (w : World) (hM : M < 8) (h : 24 ≤ n ∧ n < 256) :
    Calls Try.prog 17 #[.int .i64 M, .int .u64 n] w fun e w' => e = .returned (.string (str (wide (32 * M + 24 : Nat) 1 ++ wide n 1))) ∧ Below w.heap.size w w' := by
  have hd : decide ((M : Int) ≤ 7) = true := by simp; omega
  have hd1 : decide ((n : Int) < 24) = false := by simp; omega
  have hd2 : decide ((n : Int) < 256) = true := by simp; omega
  go_enter Try.func17, Try.ntmps17
  go_wp2_with (go_at_call 20; go_in)
  refine (bigAt _ (32 * M + 24) 1 (by go_num) _ (by omega) (by omega)).mono ?_
  rintro e w1 ⟨x1, rfl, H1, hs1, hb1⟩
  go_wp2_with fail
  refine (bigAt _ n 1 rfl _ (by omega) (by omega)).mono ?_
  rintro e w2 ⟨x2, rfl, H2, hs2, hb2⟩
  clear h hd hd1
  go_wp2_with fail
  go_ret
  exact ⟨ret_eq (congrArg Value.string (named_add H1 H2)), hb1.trans (hb2.mono hb1.size)⟩

set_option maxHeartbeats 1000000 in
set_option maxRecDepth 100000 in
theorem specPutHead_2 (M n : Nat) (w : World) (hM : M < 8) (h : 256 ≤ n ∧ n < 65536) :
    Calls Try.prog 17 #[.int .i64 M, .int .u64 n] w fun e w' => e = .returned (.string (str (wide (32 * M + 25 : Nat) 1 ++ wide n 2))) ∧ Below w.heap.size w w' := by
  have hd : decide ((M : Int) ≤ 7) = true := by simp; omega
  have hd1 : decide ((n : Int) < 24) = false := by simp; omega
  have hd2 : decide ((n : Int) < 256) = false := by simp; omega
  have hd3 : decide ((n : Int) < 65536) = true := by simp; omega
  go_enter Try.func17, Try.ntmps17
  go_wp2_with (go_at_call 20; go_in)
  refine (bigAt _ (32 * M + 25) 1 (by go_num) _ (by omega) (by omega)).mono ?_
  rintro e w1 ⟨x1, rfl, H1, hs1, hb1⟩
  go_wp2_with fail
  refine (bigAt _ n 2 rfl _ (by omega) (by omega)).mono ?_
  rintro e w2 ⟨x2, rfl, H2, hs2, hb2⟩
  clear h hd hd1
  go_wp2_with fail
  go_ret
  exact ⟨ret_eq (congrArg Value.string (named_add H1 H2)), hb1.trans (hb2.mono hb1.size)⟩

set_option maxHeartbeats 1000000 in
set_option maxRecDepth 100000 in
theorem specPutHead_3 (M n : Nat) (w : World) (hM : M < 8) (h : 65536 ≤ n ∧ n < 4294967296) :
    Calls Try.prog 17 #[.int .i64 M, .int .u64 n] w fun e w' => e = .returned (.string (str (wide (32 * M + 26 : Nat) 1 ++ wide n 4))) ∧ Below w.heap.size w w' := by
  have hd : decide ((M : Int) ≤ 7) = true := by simp; omega
  have hd1 : decide ((n : Int) < 24) = false := by simp; omega
  have hd2 : decide ((n : Int) < 256) = false := by simp; omega
  have hd3 : decide ((n : Int) < 65536) = false := by simp; omega
  have hd4 : decide ((n : Int) < 4294967296) = true := by simp; omega
  go_enter Try.func17, Try.ntmps17
  go_wp2_with (go_at_call 20; go_in)
  refine (bigAt _ (32 * M + 26) 1 (by go_num) _ (by omega) (by omega)).mono ?_
  rintro e w1 ⟨x1, rfl, H1, hs1, hb1⟩
  go_wp2_with fail
  refine (bigAt _ n 4 rfl _ (by omega) (by omega)).mono ?_
  rintro e w2 ⟨x2, rfl, H2, hs2, hb2⟩
  clear h hd hd1
  go_wp2_with fail
  go_ret
  exact ⟨ret_eq (congrArg Value.string (named_add H1 H2)), hb1.trans (hb2.mono hb1.size)⟩

set_option maxHeartbeats 1000000 in
set_option maxRecDepth 100000 in
theorem specPutHead_4 (M n : Nat) (w : World) (hM : M < 8) (h : 4294967296 ≤ n ∧ n < 18446744073709551616) :
    Calls Try.prog 17 #[.int .i64 M, .int .u64 n] w fun e w' => e = .returned (.string (str (wide (32 * M + 27 : Nat) 1 ++ wide n 8))) ∧ Below w.heap.size w w' := by
  have hd : decide ((M : Int) ≤ 7) = true := by simp; omega
  have hd1 : decide ((n : Int) < 24) = false := by simp; omega
  have hd2 : decide ((n : Int) < 256) = false := by simp; omega
  have hd3 : decide ((n : Int) < 65536) = false := by simp; omega
  have hd4 : decide ((n : Int) < 4294967296) = false := by simp; omega
  go_enter Try.func17, Try.ntmps17
  go_wp2_with (go_at_call 20; go_in)
  refine (bigAt _ (32 * M + 27) 1 (by go_num) _ (by omega) (by omega)).mono ?_
  rintro e w1 ⟨x1, rfl, H1, hs1, hb1⟩
  go_wp2_with fail
  refine (bigAt _ n 8 rfl _ (by omega) (by omega)).mono ?_
  rintro e w2 ⟨x2, rfl, H2, hs2, hb2⟩
  clear h hd hd1
  go_wp2_with fail
  go_ret
  exact ⟨ret_eq (congrArg Value.string (named_add H1 H2)), hb1.trans (hb2.mono hb1.size)⟩

set_option maxHeartbeats 1000000 in
set_option maxRecDepth 100000 in
theorem implPutHead_0 (M n : Nat) (w : World) (hM : M < 8) (h : n < 24) :
    Calls Try.prog 19 #[.int .i64 M, .int .u64 n] w fun e w' => e = .returned (.string (str (wide (32 * M + n : Nat) 1))) ∧ Below w.heap.size w w' := by
  have hd : decide ((M : Int) ≤ 7) = true := by simp; omega
  have hd1 : decide ((n : Int) < 24) = true := by simp; omega
  have hl := lit1 (P := Try.prog) 37 9 5 Try.underlying37 Try.underlying5 Try.underlying9
  go_enter Try.func19, Try.ntmps19
  go_wp2_with (go_at_call 22; go_in)
  go_ret
  exact ⟨ret_eq (congrArg Value.string (lit_named M n _ (by omega) (by omega))), (Below.refl _ _).alloc (Nat.le_refl _) _⟩

set_option maxHeartbeats 1000000 in
set_option maxRecDepth 100000 in
theorem implPutHead_1 (M n : Nat) (w : World) (hM : M < 8) (h : 24 ≤ n ∧ n < 256) :
    Calls Try.prog 19 #[.int .i64 M, .int .u64 n] w fun e w' => e = .returned (.string (str (wide (32 * M + 24 : Nat) 1 ++ wide n 1))) ∧ Below w.heap.size w w' := by
  have hd : decide ((M : Int) ≤ 7) = true := by simp; omega
  have hd1 : decide ((n : Int) < 24) = false := by simp; omega
  have hd2 : decide ((n : Int) < 256) = true := by simp; omega
  go_enter Try.func19, Try.ntmps19
  go_wp2_with (go_at_call 22; go_in)
  have hl := lit1 (P := Try.prog) 37 9 5 Try.underlying37 Try.underlying5 Try.underlying9
  have hl2 := lit1_drew (P := Try.prog) 37 9 5 Try.underlying37 Try.underlying5 Try.underlying9
  have hs0 : ∀ b : UInt8, (str [b]).size = 1 := fun _ => rfl
  clear h hd hd1 hd2
  go_region_with ((go_at_call 24; refine (wideAt _ n 1 rfl _ (by omega) (by omega)).mono ?_; rintro e w1 ⟨x2, rfl, H2, hs2, hb1⟩; try have hcv := lit1_after (P := Try.prog) 37 9 5 Try.underlying37 Try.underlying5 Try.underlying9 hb1))
  all_goals go_wp2_with fail
  all_goals go_ret
  all_goals exact ⟨ret_eq (congrArg Value.string (named_add (lit_named M 24 _ (by first | omega | (rw [IntKind.wrap_u8']; omega)) (by omega)) H2)), by first | exact bl_1 hb1 | exact bl_2 hb1⟩

set_option maxHeartbeats 1000000 in
set_option maxRecDepth 100000 in
theorem implPutHead_2 (M n : Nat) (w : World) (hM : M < 8) (h : 256 ≤ n ∧ n < 65536) :
    Calls Try.prog 19 #[.int .i64 M, .int .u64 n] w fun e w' => e = .returned (.string (str (wide (32 * M + 25 : Nat) 1 ++ wide n 2))) ∧ Below w.heap.size w w' := by
  have hd : decide ((M : Int) ≤ 7) = true := by simp; omega
  have hd1 : decide ((n : Int) < 24) = false := by simp; omega
  have hd2 : decide ((n : Int) < 256) = false := by simp; omega
  have hd3 : decide ((n : Int) < 65536) = true := by simp; omega
  go_enter Try.func19, Try.ntmps19
  go_wp2_with (go_at_call 22; go_in)
  have hl := lit1 (P := Try.prog) 37 9 5 Try.underlying37 Try.underlying5 Try.underlying9
  have hl2 := lit1_drew (P := Try.prog) 37 9 5 Try.underlying37 Try.underlying5 Try.underlying9
  have hs0 : ∀ b : UInt8, (str [b]).size = 1 := fun _ => rfl
  clear h hd hd1 hd2 hd3
  go_region_with ((go_at_call 24; refine (wideAt _ n 2 rfl _ (by omega) (by omega)).mono ?_; rintro e w1 ⟨x2, rfl, H2, hs2, hb1⟩; try have hcv := lit1_after (P := Try.prog) 37 9 5 Try.underlying37 Try.underlying5 Try.underlying9 hb1))
  all_goals go_wp2_with fail
  all_goals go_ret
  all_goals exact ⟨ret_eq (congrArg Value.string (named_add (lit_named M 25 _ (by first | omega | (rw [IntKind.wrap_u8']; omega)) (by omega)) H2)), by first | exact bl_1 hb1 | exact bl_2 hb1⟩

set_option maxHeartbeats 1000000 in
set_option maxRecDepth 100000 in
theorem implPutHead_3 (M n : Nat) (w : World) (hM : M < 8) (h : 65536 ≤ n ∧ n < 4294967296) :
    Calls Try.prog 19 #[.int .i64 M, .int .u64 n] w fun e w' => e = .returned (.string (str (wide (32 * M + 26 : Nat) 1 ++ wide n 4))) ∧ Below w.heap.size w w' := by
  have hd : decide ((M : Int) ≤ 7) = true := by simp; omega
  have hd1 : decide ((n : Int) < 24) = false := by simp; omega
  have hd2 : decide ((n : Int) < 256) = false := by simp; omega
  have hd3 : decide ((n : Int) < 65536) = false := by simp; omega
  have hd4 : decide ((n : Int) < 4294967296) = true := by simp; omega
  go_enter Try.func19, Try.ntmps19
  go_wp2_with (go_at_call 22; go_in)
  have hl := lit1 (P := Try.prog) 37 9 5 Try.underlying37 Try.underlying5 Try.underlying9
  have hl2 := lit1_drew (P := Try.prog) 37 9 5 Try.underlying37 Try.underlying5 Try.underlying9
  have hs0 : ∀ b : UInt8, (str [b]).size = 1 := fun _ => rfl
  clear h hd hd1 hd2 hd3 hd4
  go_region_with ((go_at_call 24; refine (wideAt _ n 4 rfl _ (by omega) (by omega)).mono ?_; rintro e w1 ⟨x2, rfl, H2, hs2, hb1⟩; try have hcv := lit1_after (P := Try.prog) 37 9 5 Try.underlying37 Try.underlying5 Try.underlying9 hb1))
  all_goals go_wp2_with fail
  all_goals go_ret
  all_goals exact ⟨ret_eq (congrArg Value.string (named_add (lit_named M 26 _ (by first | omega | (rw [IntKind.wrap_u8']; omega)) (by omega)) H2)), by first | exact bl_1 hb1 | exact bl_2 hb1⟩

set_option maxHeartbeats 1000000 in
set_option maxRecDepth 100000 in
theorem implPutHead_4 (M n : Nat) (w : World) (hM : M < 8) (h : 4294967296 ≤ n ∧ n < 18446744073709551616) :
    Calls Try.prog 19 #[.int .i64 M, .int .u64 n] w fun e w' => e = .returned (.string (str (wide (32 * M + 27 : Nat) 1 ++ wide n 8))) ∧ Below w.heap.size w w' := by
  have hd : decide ((M : Int) ≤ 7) = true := by simp; omega
  have hd1 : decide ((n : Int) < 24) = false := by simp; omega
  have hd2 : decide ((n : Int) < 256) = false := by simp; omega
  have hd3 : decide ((n : Int) < 65536) = false := by simp; omega
  have hd4 : decide ((n : Int) < 4294967296) = false := by simp; omega
  go_enter Try.func19, Try.ntmps19
  go_wp2_with (go_at_call 22; go_in)
  have hl := lit1 (P := Try.prog) 37 9 5 Try.underlying37 Try.underlying5 Try.underlying9
  have hl2 := lit1_drew (P := Try.prog) 37 9 5 Try.underlying37 Try.underlying5 Try.underlying9
  have hs0 : ∀ b : UInt8, (str [b]).size = 1 := fun _ => rfl
  clear h hd hd1 hd2 hd3 hd4
  go_region_with ((go_at_call 24; refine (wideAt _ n 8 rfl _ (by omega) (by omega)).mono ?_; rintro e w1 ⟨x2, rfl, H2, hs2, hb1⟩; try have hcv := lit1_after (P := Try.prog) 37 9 5 Try.underlying37 Try.underlying5 Try.underlying9 hb1))
  all_goals go_wp2_with fail
  all_goals go_ret
  all_goals exact ⟨ret_eq (congrArg Value.string (named_add (lit_named M 27 _ (by first | omega | (rw [IntKind.wrap_u8']; omega)) (by omega)) H2)), by first | exact bl_1 hb1 | exact bl_2 hb1⟩

theorem specPutHead (M : Int) (n : Nat) (w : World) (hn : n < 18446744073709551616) :
    Calls Try.prog 17 #[.int .i64 M, .int .u64 n] w fun e w' => e = .returned (.string (str (putHeadL M n))) ∧ Below w.heap.size w w' := by
  by_cases h : 0 ≤ M ∧ M ≤ 7
  · obtain ⟨M, rfl⟩ := Int.eq_ofNat_of_zero_le h.1
    have hM : M < 8 := by omega
    have hp : putHeadL M n = headL M n := by unfold putHeadL; rw [if_pos h, Int.toNat_natCast]
    rw [hp]
    unfold headL
    by_cases h1 : n < 24
    · rw [if_pos h1]; exact specPutHead_0 M n w hM h1
    · rw [if_neg h1]
      by_cases h2 : n < 256
      · rw [if_pos h2]; exact specPutHead_1 M n w hM (by omega)
      · rw [if_neg h2]
        by_cases h3 : n < 65536
        · rw [if_pos h3]; exact specPutHead_2 M n w hM (by omega)
        · rw [if_neg h3]
          by_cases h4 : n < 4294967296
          · rw [if_pos h4]; exact specPutHead_3 M n w hM (by omega)
          · rw [if_neg h4]; exact specPutHead_4 M n w hM (by omega)
  · have hp : putHeadL M n = [] := by unfold putHeadL; rw [if_neg h]
    rw [hp]
    clear hp hn
    rcases (show decide (0 ≤ M) = false ∨ (decide (0 ≤ M) = true ∧ decide (M ≤ 7) = false) by simp; omega) with hc | hc
    all_goals
      clear h
      go_enter Try.func17, Try.ntmps17
      go_wp2_with (go_at_call 20; go_in)
      go_ret
      exact ⟨rfl, Below.refl _ _⟩

theorem implPutHead (M : Int) (n : Nat) (w : World) (hn : n < 18446744073709551616) :
    Calls Try.prog 19 #[.int .i64 M, .int .u64 n] w fun e w' => e = .returned (.string (str (putHeadL M n))) ∧ Below w.heap.size w w' := by
  by_cases h : 0 ≤ M ∧ M ≤ 7
  · obtain ⟨M, rfl⟩ := Int.eq_ofNat_of_zero_le h.1
    have hM : M < 8 := by omega
    have hp : putHeadL M n = headL M n := by unfold putHeadL; rw [if_pos h, Int.toNat_natCast]
    rw [hp]
    unfold headL
    by_cases h1 : n < 24
    · rw [if_pos h1]; exact implPutHead_0 M n w hM h1
    · rw [if_neg h1]
      by_cases h2 : n < 256
      · rw [if_pos h2]; exact implPutHead_1 M n w hM (by omega)
      · rw [if_neg h2]
        by_cases h3 : n < 65536
        · rw [if_pos h3]; exact implPutHead_2 M n w hM (by omega)
        · rw [if_neg h3]
          by_cases h4 : n < 4294967296
          · rw [if_pos h4]; exact implPutHead_3 M n w hM (by omega)
          · rw [if_neg h4]; exact implPutHead_4 M n w hM (by omega)
  · have hp : putHeadL M n = [] := by unfold putHeadL; rw [if_neg h]
    rw [hp]
    clear hp hn
    rcases (show decide (0 ≤ M) = false ∨ (decide (0 ≤ M) = true ∧ decide (M ≤ 7) = false) by simp; omega) with hc | hc
    all_goals
      clear h
      go_enter Try.func19, Try.ntmps19
      go_wp2_with (go_at_call 22; go_in)
      go_ret
      exact ⟨rfl, Below.refl _ _⟩

end Go.Proofs.Ytmfogabkpeoagaa
