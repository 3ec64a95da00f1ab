/-
  Unquote of the program: four digits.
-/
import Derived.Test.YtlgonfdodmipeaaDoorLowP
import Derived.Test.YtlgonfdodmipeaaDoorUnqU
import Derived.Test.YtlgonfdodmipeaaDoorGetSignI
import Derived.Test.YtlgonfdodmipeaaDoorShelfC
namespace Go.Proofs.YtlgonfdodmipeaaDoor
open Go.RowKit
set_option linter.unusedVariables false
set_option linter.unusedSimpArgs false
set_option maxRecDepth 100000

/-- The library's table of cases. -/
def CaseTab (w : World) : Prop := Lib.CaseVar 3 Lib.caseA w
theorem CaseTab.below {w w' : World} (h : CaseTab w) (hb : Below w.heap.size w w') : CaseTab w' := Lib.CaseVar_below h hb
theorem implDig (c : Nat) (hc : c < 256) (w : World) : Calls Tryd.prog 55 #[.string ⟨#[48, 49, 50, 51, 52, 53, 54, 55, 56, 57, 97, 98, 99, 100, 101, 102]⟩, .int .u8 c] w fun e w' => e = .returned (.int .i64 (dgV c)) ∧ w' = w := by
  have h : Lib.indexByte [48, 49, 50, 51, 52, 53, 54, 55, 56, 57, 97, 98, 99, 100, 101, 102] c.toUInt8 = dgV c := by
    have : ∀ m : Fin 256, Lib.indexByte [48, 49, 50, 51, 52, 53, 54, 55, 56, 57, 97, 98, 99, 100, 101, 102] m.val.toUInt8 = dgV m.val := by decide +kernel
    exact this ⟨c, hc⟩
  refine (Tryd.strings_IndexByte _ c w).mono ?_
  rintro e w' ⟨rfl, rfl⟩
  exact ⟨by rw [← h, Int.toNat_natCast], rfl⟩
/-- What the program's readUnit hands back. -/
def unitQ (s : ByteArray) (i : Nat) : Int := if i + 6 ≤ s.size ∧ (s.get! i).toNat = 92 ∧ (s.get! (i + 1)).toNat = 117 then unitZ s (i + 2) else -1
def unitN (s : ByteArray) (i : Nat) : Int := if unitQ s i < 0 then -1 else ((i + 6 : Nat) : Int)
theorem unitQ_no {s : ByteArray} {i : Nat} (h : unitQ s i = -1) : unitN s i = -1 := by unfold unitN; rw [h]; rfl
theorem drop_one (s : ByteArray) (j : Nat) (hj : j < s.size) : s.data.toList.drop j = s[j] :: s.data.toList.drop (j + 1) := by
  rw [List.drop_eq_getElem_cons (by rw [← Lib.size_eq]; exact hj)]
  rfl
theorem enc_len (r : Int) : (Lib.encodeRune r).length ≤ 4 := by
  unfold Lib.encodeRune
  rw [List.length_map]
  unfold Lib.encodeRuneZ
  repeat' split
  all_goals simp
theorem lower_len (l : List UInt8) : (Lib.toLowerD l).length ≤ 4 * l.length := by
  have h : ∀ n l, (Lib.mapGoD Lib.toLowerU n l).length ≤ 4 * n := by
    intro n
    induction n with
    | zero => intro l; simp [Lib.mapGoD]
    | succ n ih =>
      intro l
      unfold Lib.mapGoD
      split
      · simp
      · rw [List.length_append]
        have h1 := ih (l.drop (Lib.decodeL l).2)
        have h2 : (if 0 ≤ Lib.toLowerU (Lib.decodeL l).1 then Lib.encodeRune (Lib.toLowerU (Lib.decodeL l).1) else []).length ≤ 4 := by
          split
          · exact enc_len _
          · simp
        omega
  exact h _ _
theorem or_dig (a : Int) (k : Int) (ha : 0 ≤ a) (ha2 : a < 65536) (h0 : 0 ≤ k) (h1 : k ≤ 15) : bits .or .i64 (a * 16) k = 16 * a + k := by
  obtain ⟨x, rfl⟩ := Int.eq_ofNat_of_zero_le ha
  obtain ⟨y, rfl⟩ := Int.eq_ofNat_of_zero_le h0
  have e1 : (BitVec.ofInt 64 ((x : Int) * 16)).toNat = x * 16 := by rw [show (x : Int) * 16 = ((x * 16 : Nat) : Int) by omega]; exact ofInt_i64 _ (by omega)
  have e2 := ofInt_i64 y (by omega)
  show IntKind.i64.wrap ((BitVec.ofInt 64 ((x : Int) * 16) ||| BitVec.ofInt 64 (y : Int)).toNat : Int) = _
  rw [BitVec.toNat_or, e1, e2]
  have e3 : x * 16 ||| y = x * 16 + y := by
    have := Nat.shiftLeft_add_eq_or_of_lt (a := x) (b := y) (i := 4) (by omega)
    rw [Nat.shiftLeft_eq] at this
    exact this.symm
  rw [e3, IntKind.wrap_i64]
  omega
theorem prefix_two (s : ByteArray) (i : Nat) (h : i ≤ s.size) : Lib.hasPrefix (s.extract i s.size).data.toList [92, 117] = decide (i + 2 ≤ s.size ∧ (s.get! i).toNat = 92 ∧ (s.get! (i + 1)).toNat = 117) := by
  have e : (s.extract i s.size).data.toList = s.data.toList.drop i := by
    rw [show s.size = i + (s.size - i) by omega, extract_piece]
    unfold piece
    rw [List.take_of_length_le]
    rw [List.length_drop, ← Lib.size_eq]
    omega
  rw [e]
  unfold Lib.hasPrefix
  by_cases h2 : i + 2 ≤ s.size
  · have e1 := drop_one s i (by omega)
    have e2 := drop_one s (i + 1) (by omega)
    rw [e1, e2, get_get! s i (by omega), get_get! s (i + 1) (by omega), Bool.eq_iff_iff, decide_eq_true_iff]
    generalize s.get! i = a
    generalize s.get! (i + 1) = b
    simp only [List.isPrefixOf, Bool.and_eq_true, beq_iff_eq, and_true, h2, true_and]
    constructor
    · rintro ⟨rfl, rfl⟩
      exact ⟨rfl, rfl⟩
    · rintro ⟨h1, h2⟩
      exact ⟨(UInt8.toNat_inj.1 h1).symm, (UInt8.toNat_inj.1 h2).symm⟩
  · rw [decide_eq_false (fun h => h2 h.1)]
    have hl : (s.data.toList.drop i).length < 2 := by rw [List.length_drop, ← Lib.size_eq]; omega
    match hd : s.data.toList.drop i, hl with
    | [], _ => rfl
    | [a], _ => simp [List.isPrefixOf]
    | _ :: _ :: _, hl => simp at hl; omega
theorem unit_piece (s : ByteArray) (i : Nat) (h : i + 6 ≤ s.size) : (s.extract (i + 2) (i + 6)).data.toList = [s.get! (i + 2), s.get! (i + 2 + 1), s.get! (i + 2 + 2), s.get! (i + 2 + 3)] := by
  rw [show i + 6 = i + 2 + 4 by omega, extract_piece]
  have e0 := piece_succ s (i + 2) 0 (by omega)
  have e1 := piece_succ s (i + 2) 1 (by omega)
  have e2 := piece_succ s (i + 2) 2 (by omega)
  have e3 := piece_succ s (i + 2) 3 (by omega)
  rw [e3, e2, e1, e0, get_get! s (i + 2) (by omega), get_get! s (i + 2 + 1) (by omega), get_get! s (i + 2 + 2) (by omega), get_get! s (i + 2 + 3) (by omega)]
  simp [piece]
theorem unit_four (s : ByteArray) (i : Nat) (k : Nat) (hk : k < 4) : [s.get! (i + 2), s.get! (i + 2 + 1), s.get! (i + 2 + 2), s.get! (i + 2 + 3)][k]'hk = s.get! (i + 2 + k) := by
  match k, hk with
  | 0, _ => rfl
  | 1, _ => rfl
  | 2, _ => rfl
  | 3, _ => rfl
/-- What the program reads in small letters: four bytes that are digits as the great and small ones are, or one that is none. -/
theorem unit_lower (s : ByteArray) (i : Nat) (h : i + 6 ≤ s.size) (l : List UInt8) (hl : l = Lib.toLowerD (s.extract (i + 2) (i + 6)).data.toList) :
    (∃ e : l.length = 4, ∀ k (hk : k < 4), dgV (l[k]'(by omega)).toNat = hxV (s.get! (i + 2 + k)).toNat) ∨ ((∃ k, ∃ hk : k < l.length, dgV l[k].toNat < 0) ∧ unitZ s (i + 2) = -1) := by
  have hp := unit_piece s i h
  by_cases ha : ∀ b ∈ (s.extract (i + 2) (i + 6)).data.toList, b.toNat < 128
  · rw [Lib.toLowerD_ascii _ ha] at hl
    have hl2 : l = ([s.get! (i + 2), s.get! (i + 2 + 1), s.get! (i + 2 + 2), s.get! (i + 2 + 3)]).map Lib.lowerB := by rw [hl, hp]; rfl
    refine .inl ⟨by rw [hl2]; rfl, fun k hk => ?_⟩
    have e : l[k]'(by rw [hl2]; exact hk) = Lib.lowerB (s.get! (i + 2 + k)) := by
      simp only [hl2, List.getElem_map]
      rw [unit_four s i k hk]
    rw [e]
    apply lower_one
    apply ha
    rw [hp, ← unit_four s i k hk]
    exact List.getElem_mem _
  · have hx : ∃ b ∈ (s.extract (i + 2) (i + 6)).data.toList, 128 ≤ b.toNat := by
      apply Classical.byContradiction
      intro hn
      exact ha fun b hb => Classical.byContradiction fun h => hn ⟨b, hb, by omega⟩
    refine .inr ⟨?_, ?_⟩
    · obtain ⟨b, hb, h2⟩ := lower_bad _ hx
      rw [← hl] at hb
      obtain ⟨k, hk, rfl⟩ := List.getElem_of_mem hb
      exact ⟨k, hk, h2⟩
    · obtain ⟨b, hb, h2⟩ := hx
      rw [hp] at hb
      obtain ⟨k, hk, rfl⟩ := List.getElem_of_mem hb
      have hk4 : k < 4 := hk
      rw [unit_four s i k hk4] at h2
      apply unitZ_bad hk4
      unfold hxV
      rw [if_neg (by omega), if_neg (by omega), if_neg (by omega)]
      omega
set_option maxHeartbeats 2000000 in
theorem implUnit (s : ByteArray) (i : Nat) (w : World) (hs : s.size ≤ 1048576) (hi : i ≤ s.size) (hT : Tabs w) (hC : CaseTab w) :
    Calls Tryd.prog 56 #[.string s, .int .i64 i] w fun e w' => e = .returned (.tuple #[.int .i64 (unitQ s i), .int .i64 (unitN s i)]) ∧ Below w.heap.size w w' := by
  have hmin : (min (i : Int) (s.size : Int)).toNat = i := by omega
  have hpx := prefix_two s i hi
  have hT0 := Lib.hid hT
  have hC0 := Lib.hid hC
  clear hT hC
  by_cases hgo : i + 6 ≤ s.size ∧ (s.get! i).toNat = 92 ∧ (s.get! (i + 1)).toNat = 117
  · obtain ⟨h6, hb1, hb2⟩ := hgo
    have hQ : unitQ s i = unitZ s (i + 2) := by unfold unitQ; rw [if_pos ⟨h6, hb1, hb2⟩]
    rw [decide_eq_true ⟨by omega, hb1, hb2⟩] at hpx
    have HPX := Lib.hid hpx
    clear hpx
    have hmi2 : ((i : Int) + 2).toNat = i + 2 := by omega
    have hmi6 : ((i : Int) + 6).toNat = i + 6 := by omega
    have HCL := Lib.hid (fun W hV hT => Tryd.strings_ToLower (s.extract (i + 2) (i + 6)) W (by simp; omega) hV hT)
    have HLOW := Lib.hid (fun l hl => unit_lower s i h6 l hl)
    have hll : (Lib.toLowerD (s.extract (i + 2) (i + 6)).data.toList).length ≤ 16 := by
      have := lower_len (s.extract (i + 2) (i + 6)).data.toList
      rw [unit_piece s i h6] at this ⊢
      exact this
    obtain ⟨l, hl⟩ : ∃ l, Lib.toLowerD (s.extract (i + 2) (i + 6)).data.toList = l := ⟨_, rfl⟩
    have HL := Lib.hid (HLOW.out l hl.symm)
    rw [hl] at HCL hll
    have HQ := Lib.hid hQ
    have HN : Hid (unitN s i = if unitQ s i < 0 then -1 else ((i + 6 : Nat) : Int)) := Lib.hid rfl
    clear HLOW hl hQ hb1 hb2
    go_enter Tryd.func56, Tryd.ntmps56
    go_wp2_with fail
    refine (Tryd.strings_HasPrefix _ _ _).mono ?_
    rintro e w1 ⟨rfl, rfl⟩
    rw [show Lib.hasPrefix (s.extract i s.size).data.toList (ByteArray.mk #[92, 117]).data.toList = true from HPX.out]
    go_wp2_with fail
    refine (HCL.out _ hC0.out hT0.out).mono ?_
    rintro e w2 ⟨rfl, hb2⟩
    have hcv := run_bytes_of_string (P := Tryd.prog) w2 9 25 5 (str l) Tryd.underlying9 Tryd.underlying25 Tryd.underlying5
    rw [str_len] at hcv
    generalize grownCap w2 l.length 0 5 = cap at hcv
    have hc3 : ∀ k (hk : k < l.length), (w2.drew.alloc (.cells (bytesRow (str l) cap) 5 ((bytesRow (str l) cap).size, (bytesRow (str l) cap).size + 1))).cell? ⟨w2.heap.size, k, none⟩ = some (.int .u8 (l[k].toNat : Int)) := fun k hk => by
      have h1 := World.cell?_alloc_mark w2.drew (bytesRow (str l) cap) 5 ((bytesRow (str l) cap).size, (bytesRow (str l) cap).size + 1) k
      have h2 := bytesRow_at (str l) cap k (by simpa [str] using hk)
      exact h1.trans (h2.trans (by simp [str]))
    have hb3 : Below w1.heap.size w1 (w2.drew.alloc (.cells (bytesRow (str l) cap) 5 ((bytesRow (str l) cap).size, (bytesRow (str l) cap).size + 1))) := hb2.drew.alloc hb2.size _
    generalize w2.drew.alloc (.cells (bytesRow (str l) cap) 5 ((bytesRow (str l) cap).size, (bytesRow (str l) cap).size + 1)) = W3 at hcv hc3 hb3
    generalize w2.heap.size = g at hcv hc3
    have HC3 := Lib.hid hc3
    clear hc3
    have hcv2 : (convert 9 25 (.string ⟨l.toArray⟩)).run Tryd.prog w2 = .ok (.slice (some ⟨g, 0, none⟩) l.length cap) W3 := hcv
    clear hcv
    have hli : (l.length : Int) ≤ 16 := by omega
    go_wp2_with fail
    rcases HL.out with ⟨h4, hd⟩ | ⟨hbad, hz⟩
    · have HD : Hid (∀ k (hk : k < 4) (hkl : k < l.length), dgV (l[k]'hkl).toNat = hxV (s.get! (i + 2 + k)).toNat) := Lib.hid (fun k hk _ => hd k hk)
      have H4 := Lib.hid h4
      clear hd h4
      go_loop [6, 34] (fun n k => ∃ j : Nat, j ≤ 4 ∧ k = .int .i64 j ∧ n = .int .i64 (accH s (i + 2) j) ∧ hexTo s (i + 2) j) (fun _ k => 4 - (intOf k).toNat)
      case atStart => exact ⟨0, by omega, rfl, rfl, fun k hk => by omega⟩
      case round =>
        obtain ⟨j, hj, rfl, rfl, hH⟩ := hrel
        by_cases hlt : j < 4
        · have hlj : j < l.length := by have := H4.out; omega
          have hcell := HC3.out j hlj
          have hu : (l[j]).toNat < 256 := UInt8.toNat_lt _
          have hR := accH_range s (i + 2) j (by omega) hH
          have hR2 : accH s (i + 2) j < 65536 := by
            have h16 : (16 : Int) ^ j ≤ 16 ^ 3 := by
              have : j = 0 ∨ j = 1 ∨ j = 2 ∨ j = 3 := by omega
              rcases this with rfl | rfl | rfl | rfl <;> decide
            omega
          have hdj := HD.out j hlt hlj
          have HS : Hid (accH s (i + 2) (j + 1) = 16 * accH s (i + 2) j + hxV (s.get! (i + 2 + j)).toNat) := Lib.hid rfl
          have HG : Hid (0 ≤ hxV (s.get! (i + 2 + j)).toNat → hexTo s (i + 2) (j + 1)) := Lib.hid (fun h k hk => by
            rcases Nat.lt_or_ge k j with h2 | h2
            · exact hH k h2
            · obtain rfl : k = j := by omega
              exact h)
          have HB : Hid (hxV (s.get! (i + 2 + j)).toNat < 0 → unitZ s (i + 2) = -1) := Lib.hid (fun h => unitZ_bad hlt h)
          have hx := hxV_range (s.get! (i + 2 + j)).toNat
          have hcp := fun W => implDig (l[j]).toNat hu W
          rw [hdj] at hcp
          have HCP := Lib.hid hcp
          have hR1 := hR.1
          generalize hxV (s.get! (i + 2 + j)).toNat = x at *
          generalize accH s (i + 2) j = A at *
          have hjl : (j : Int) < (l.length : Int) := by omega
          clear hdj hcp hR hH
          go_wp2_with fail
          refine (HCP.out _).mono ?_
          rintro e w4 ⟨rfl, rfl⟩
          by_cases hneg : x < 0
          · have HU := Lib.hid (HB.out hneg)
            go_wp2_with fail
            go_ret2
            refine ⟨tupV (congrArg (Value.int .i64) ?_) (congrArg (Value.int .i64) ?_), hb3⟩
            · rw [HQ.out, HU.out]
            · rw [HN.out, HQ.out, HU.out]; rfl
          · have hor := or_dig A x hR1 hR2 (by omega) hx.2
            go_wp2_with fail
            go_round
            case rel => exact ⟨j + 1, hlt, by go_num, by rw [HS.out], HG.out (by omega)⟩
            case measure => simp [intOf]; omega
        · obtain rfl : j = 4 := by omega
          have hU : unitZ s (i + 2) = accH s (i + 2) 4 := by unfold unitZ; rw [if_pos ⟨by omega, hH⟩]
          have hR := accH_range s (i + 2) 4 (by omega) hH
          have HU := Lib.hid hU
          have HR := Lib.hid hR.1
          have hj4 : ¬ ((4 : Int) < (l.length : Int)) := by have := H4.out; omega
          clear hH hU hR
          go_wp2_with fail
          go_ret2
          refine ⟨tupV (congrArg (Value.int .i64) ?_) (congrArg (Value.int .i64) ?_), hb3⟩
          · rw [HQ.out, HU.out]
          · have := HR.out
            rw [HN.out, HQ.out, HU.out, if_neg (by omega)]; omega
    · have HB := Lib.hid hbad
      have HZ := Lib.hid hz
      clear hbad hz
      go_loop [6, 34] (fun n k => ∃ j : Nat, j ≤ l.length ∧ k = .int .i64 j ∧ (∃ N : Int, n = .int .i64 N) ∧ Hid (∀ m, m < j → ∀ hm : m < l.length, ¬ dgV (l[m]).toNat < 0)) (fun _ k => l.length - (intOf k).toNat)
      case atStart => exact ⟨0, Nat.zero_le _, rfl, ⟨0, rfl⟩, Lib.hid (fun m hm => by omega)⟩
      case round =>
        obtain ⟨j, hj, rfl, ⟨N, rfl⟩, HA⟩ := hrel
        by_cases hlt : j < l.length
        · have hcell := HC3.out j hlt
          have hu : (l[j]).toNat < 256 := UInt8.toNat_lt _
          have HCP := Lib.hid (fun W => implDig (l[j]).toNat hu W)
          have hjl : (j : Int) < (l.length : Int) := by omega
          have HS : Hid (¬ dgV (l[j]).toNat < 0 → ∀ m, m < j + 1 → ∀ hm : m < l.length, ¬ dgV (l[m]).toNat < 0) := Lib.hid (fun h m hm hm2 => by
            rcases Nat.lt_or_ge m j with h2 | h2
            · exact HA.out m h2 hm2
            · obtain rfl : m = j := by omega
              exact h)
          generalize dgV (l[j]).toNat = x at *
          go_wp2_with fail
          refine (HCP.out _).mono ?_
          rintro e w4 ⟨rfl, rfl⟩
          by_cases hneg : x < 0
          · go_wp2_with fail
            go_ret2
            refine ⟨tupV (congrArg (Value.int .i64) ?_) (congrArg (Value.int .i64) ?_), hb3⟩
            · rw [HQ.out, HZ.out]
            · rw [HN.out, HQ.out, HZ.out]; rfl
          · go_wp2_with fail
            go_round
            case rel => exact ⟨j + 1, hlt, by go_num, ⟨_, rfl⟩, Lib.hid (fun m hm hm2 h => by have := HS.out (by omega) m hm hm2; omega)⟩
            case measure => simp [intOf]; omega
        · exfalso
          obtain ⟨k, hk, h2⟩ := HB.out
          exact HA.out k (by omega) hk h2
  · have hQ : unitQ s i = -1 := by unfold unitQ; rw [if_neg hgo]
    have HQ := Lib.hid hQ
    have HN := Lib.hid (unitQ_no hQ)
    by_cases h6 : i + 6 ≤ s.size
    · rw [decide_eq_false (fun h => hgo ⟨h6, h.2⟩)] at hpx
      have HPX := Lib.hid hpx
      clear hpx hQ hgo
      go_enter Tryd.func56, Tryd.ntmps56
      go_wp2_with fail
      refine (Tryd.strings_HasPrefix _ _ _).mono ?_
      rintro e w1 ⟨rfl, rfl⟩
      rw [show Lib.hasPrefix (s.extract i s.size).data.toList (ByteArray.mk #[92, 117]).data.toList = false from HPX.out]
      go_wp2_with fail
      go_ret2
      exact ⟨tupV (congrArg (Value.int .i64) HQ.out.symm) (congrArg (Value.int .i64) HN.out.symm), Below.refl _ _⟩
    · have HPX := Lib.hid hpx
      have h6i : (s.size : Int) < (i : Int) + 6 := by omega
      clear hpx hQ hgo
      go_enter Tryd.func56, Tryd.ntmps56
      go_wp2_with fail
      refine (Tryd.strings_HasPrefix _ _ _).mono ?_
      rintro e w1 ⟨rfl, rfl⟩
      rw [show Lib.hasPrefix (s.extract i s.size).data.toList (ByteArray.mk #[92, 117]).data.toList = decide (i + 2 ≤ s.size ∧ (s.get! i).toNat = 92 ∧ (s.get! (i + 1)).toNat = 117) from HPX.out]
      generalize decide (i + 2 ≤ s.size ∧ (s.get! i).toNat = 92 ∧ (s.get! (i + 1)).toNat = 117) = B
      cases B
      all_goals
        go_wp2_with fail
        go_ret2
        exact ⟨tupV (congrArg (Value.int .i64) HQ.out.symm) (congrArg (Value.int .i64) HN.out.symm), Below.refl _ _⟩
end Go.Proofs.YtlgonfdodmipeaaDoor
