/-
  PutPath of the reference.
-/
import Derived.Test.YtlgonfdodmipeaaDoorPathA
import Derived.Test.YtlgonfdodmipeaaDoorSignsS
namespace Go.Proofs.YtlgonfdodmipeaaDoor
open Go.RowKit
set_option linter.unusedVariables false
set_option linter.unusedSimpArgs false
set_option maxRecDepth 100000

theorem path_open (P : List UInt8) (s : ByteArray) (i : Nat) (h : i < s.size) {ys : List UInt8} (hy : escP s[i] = ys) : P ++ 47 :: escS (s.data.toList.take (i + 1)) = (P ++ 47 :: escS (s.data.toList.take i)) ++ ys := by
  rw [take_snoc s i h, ← hy]; simp [escS]
theorem path_own {w : World} {b : Nat} {v : Value} {X Y : List UInt8} (ys : List UInt8) (h : Y = X ++ ys) (hown : w.ownsRow b 5 1 v (X.length + ys.length) (X.map bv ++ ys.map bv)) : w.ownsRow b 5 1 v Y.length (Y.map bv) := by
  rw [h, List.length_append, List.map_append]; exact hown
theorem esc_tilde {b : UInt8} (h : b.toNat = 126) : escP b = [126, 48] := by
  have : b = 126 := UInt8.toNat_inj.1 h
  subst this; rfl
theorem esc_slash {b : UInt8} (h : b.toNat = 47) : escP b = [126, 49] := by
  have : b = 47 := UInt8.toNat_inj.1 h
  subst this; rfl
theorem esc_else {b : UInt8} (h : b.toNat ≠ 126) (h2 : b.toNat ≠ 47) : escP b = [b] := by
  unfold escP
  rw [if_neg (fun e => h (by rw [e]; rfl)), if_neg (fun e => h2 (by rw [e]; rfl))]
theorem path_lens (P : List UInt8) (s : ByteArray) (i : Nat) (hP : P.length ≤ 60000) (hs : s.size ≤ 2000) : (P ++ 47 :: escS (s.data.toList.take i)).length ≤ 70000 := by
  have h1 := escS_len (s.data.toList.take i)
  have h2 : (s.data.toList.take i).length ≤ s.size := by rw [List.length_take]; exact Nat.min_le_right _ _
  simp only [List.length_append, List.length_cons]
  omega

set_option maxHeartbeats 4000000 in
theorem specPutPath (l : List ByteArray) (A : Option Addr) (cap : Nat) (w : World) (hl : l.length ≤ 1048576) (hs : ∀ s ∈ l, s.size ≤ 1048576) (hat : At1 w w.heap.size A (l.map Value.string)) :
    Calls Tryd.prog 24 #[.slice A l.length cap] w fun e w' => e = .returned (.string (str (pathB l))) ∧ Below w.heap.size w w' := by
  have HA := Lib.hid hat
  by_cases h12 : l.length ≤ 12
  · have q : ¬ (12 : Int) < (l.length : Int) := by omega
    have HT := Lib.hid (fun (j : Nat) (h : j < l.length) (W : World) => specTextOk l[j] W (hs _ (List.getElem_mem h)))
    have HB0 : Hid (∀ j (h : j < l.length), stepOk l[j] = false → pathB l = []) := Lib.hid (fun j h hb => by
      unfold pathB
      rw [if_neg (by
        unfold stepsOk
        rw [Bool.and_eq_true, List.all_eq_true]
        intro hh
        rw [hh.2 _ (List.getElem_mem h)] at hb
        cases hb)])
    have HB1 : Hid ((l.take l.length).all stepOk = true → pathB l = pathS l) := Lib.hid (fun h => by
      rw [List.take_length] at h
      unfold pathB stepsOk
      rw [h, decide_eq_true h12]; rfl)
    have HL : Hid (∀ j, j ≤ l.length → (l.take j).all stepOk = true → (pathS (l.take j)).length ≤ 60000) := Lib.hid (fun j hj hok => by
      have h1 := pathS_len (l.take j) (fun s hs => by
        have := List.all_eq_true.1 hok s hs
        unfold stepOk at this
        rw [Bool.and_eq_true, decide_eq_true_iff] at this
        exact this.1)
      rw [List.length_take] at h1
      omega)
    have HAL : Hid (∀ j (h : j < l.length), ((l.take (j + 1)).all stepOk) = ((l.take j).all stepOk && stepOk l[j])) := Lib.hid (fun j h => all_take h)
    have HST := Lib.hid (pathS_step l)
    clear hat hs h12
    go_enter Tryd.func24, Tryd.ntmps24
    go_wp2_with fail
    go_loopw [3, 4, 5] (fun o i k wr => ∃ j : Nat, j ≤ l.length ∧ i = .int .i64 j ∧ (l.take j).all stepOk = true ∧ wr.ownsRow w.heap.size 5 1 o (pathS (l.take j)).length ((pathS (l.take j)).map bv) ∧ Below w.heap.size w wr) (fun _ i _ _ => l.length - (intOf i).toNat)
    case atStart => exact ⟨0, Nat.zero_le _, rfl, rfl, own_empty w _ _, (Below.refl _ _).alloc (Nat.le_refl _) _⟩
    case round =>
      obtain ⟨j, hj, rfl, hok, hown, hb⟩ := hrel
      have hlen := HL.out j hj hok
      have HOK := Lib.hid hok
      clear hok
      by_cases hlt : j < l.length
      · obtain ⟨b, off, rfl, hbl, hc⟩ := (HA.out.below hb (Nat.le_refl _)).get (j := j) (by simpa using hlt)
        rw [List.getElem_map] at hc
        go_wp2_with fail
        refine (HT.out j hlt wr).mono ?_
        rintro e w1 ⟨rfl, hb1⟩
        have hown1 := own_below hown hb1
        have b1 := hb.trans (hb1.mono hb.size)
        have hc1 := (hb1.cell (p := ⟨b, off + j, none⟩) (Nat.lt_of_lt_of_le hbl hb.size)).trans hc
        clear hown hb1 hc hb
        cases htx : textOk l[j] with
        | false =>
          have HN : Hid (pathB l = []) := Lib.hid (HB0.out j hlt (by unfold stepOk; rw [htx, Bool.and_false]))
          clear htx
          go_wp2_with fail
          go_ret
          exact ⟨ret_eq (congrArg (fun x => Value.string (str x)) HN.out.symm), b1⟩
        | true =>
          by_cases hsz : (l[j]).size ≤ 2000
          · have q2 : ¬ (2000 : Int) < ((l[j]).size : Int) := by omega
            have HN : Hid ((l.take (j + 1)).all stepOk = true) := Lib.hid (by
              rw [HAL.out j hlt, HOK.out]
              unfold stepOk
              rw [htx, decide_eq_true hsz]; rfl)
            have HS := Lib.hid (HST.out j hlt)
            have HJ := Lib.hid hlt
            clear htx
            generalize pathS (l.take j) = P at *
            go_wp2_with (at_builtin; refine wpList_app rfl (.tmp 32) (.tmp 33) 25 rfl w.heap.size 5 Tryd.underlying25 infoU8 rfl (by decide) (W := w) rfl (hown1.alloc _) (b1.alloc b1.size _) (Nat.le_trans b1.size (by simp)) _ 1 1 _ rfl rfl (cells_new _ _ _) (one_u8 _) (by unfold maxLen; omega) (by omega) ?_; intro v' w' hown' hb' hB')
            have ho : w'.ownsRow w.heap.size 5 1 v' (P ++ 47 :: escS ((l[j]).data.toList.take 0)).length ((P ++ 47 :: escS ((l[j]).data.toList.take 0)).map bv) := path_own [47] (by simp [escS]) hown'
            clear hown' hown1 hB' b1 hc1
            go_loopw [3, 5] (fun o k wr => ∃ i : Nat, i ≤ (l[j]).size ∧ k = .int .i64 i ∧ wr.ownsRow w.heap.size 5 1 o (P ++ 47 :: escS ((l[j]).data.toList.take i)).length ((P ++ 47 :: escS ((l[j]).data.toList.take i)).map bv) ∧ Below w.heap.size w wr) (fun _ k _ => (l[j]).size - (intOf k).toNat)
            case atStart => exact ⟨0, Nat.zero_le _, rfl, ho, hb'⟩
            case round =>
              obtain ⟨i, hi, rfl, hown, hb⟩ := hrel
              have hc := HA.out.below hb (Nat.le_refl _)
              obtain ⟨b2, off2, hA2, hbl2, hc2⟩ := hc.get (j := j) (by simpa using hlt)
              cases hA2
              rw [List.getElem_map] at hc2
              have hplen := path_lens P l[j] i hlen hsz
              clear hc ho hb'
              by_cases hlt2 : i < (l[j]).size
              · by_cases c1 : ((l[j])[i]).toNat = 126
                · have HX := Lib.hid (path_open P l[j] i hlt2 (esc_tilde c1))
                  go_wp2_with (at_builtin; refine wpList_app rfl (.tmp 61) (.tmp 62) 25 rfl w.heap.size 5 Tryd.underlying25 infoU8 rfl (by decide) (W := w) rfl (hown.alloc _) (hb.alloc hb.size _) (Nat.le_trans hb.size (by simp)) _ 2 2 _ rfl rfl (cells_new _ _ _) (ones_u8 _ _) (by unfold maxLen; omega) (by omega) ?_; intro v3 w3 hown3 hb3 hB3)
                  go_roundw
                  case rel => exact ⟨i + 1, hlt2, by go_num, path_own [126, 48] HX.out hown3, hb3⟩
                  case measure => simp [intOf]; omega
                · by_cases c2 : ((l[j])[i]).toNat = 47
                  · have HX := Lib.hid (path_open P l[j] i hlt2 (esc_slash c2))
                    go_wp2_with (at_builtin; refine wpList_app rfl (.tmp 66) (.tmp 67) 25 rfl w.heap.size 5 Tryd.underlying25 infoU8 rfl (by decide) (W := w) rfl (hown.alloc _) (hb.alloc hb.size _) (Nat.le_trans hb.size (by simp)) _ 2 2 _ rfl rfl (cells_new _ _ _) (ones_u8 _ _) (by unfold maxLen; omega) (by omega) ?_; intro v3 w3 hown3 hb3 hB3)
                    go_roundw
                    case rel => exact ⟨i + 1, hlt2, by go_num, path_own [126, 49] HX.out hown3, hb3⟩
                    case measure => simp [intOf]; omega
                  · have HX := Lib.hid (path_open P l[j] i hlt2 (esc_else c1 c2))
                    have n1 : ¬ (((l[j])[i]).toNat : Int) = 126 := by omega
                    have n2 : ¬ (((l[j])[i]).toNat : Int) = 47 := by omega
                    go_wp2_with (at_builtin; refine wpList_app rfl (.tmp 50) (.tmp 57) 25 rfl w.heap.size 5 Tryd.underlying25 infoU8 rfl (by decide) (W := w) rfl (hown.alloc _) (hb.alloc hb.size _) (Nat.le_trans hb.size (by simp)) _ 1 1 _ rfl rfl (cells_new _ _ _) (one_u8 _) (by unfold maxLen; omega) (by omega) ?_; intro v3 w3 hown3 hb3 hB3)
                    go_roundw
                    case rel => exact ⟨i + 1, hlt2, by go_num, path_own [(l[j])[i]] HX.out hown3, hb3⟩
                    case measure => simp [intOf]; omega
              · obtain rfl : i = (l[j]).size := by omega
                have hfin : P ++ 47 :: escS ((l[j]).data.toList.take (l[j]).size) = pathS (l.take (j + 1)) := (congrArg (fun x => P ++ 47 :: escS x) List.take_length).trans HS.out.symm
                rw [hfin] at hown
                go_wp2_with fail
                go_roundw
                case rel => exact ⟨j + 1, HJ.out, by go_num, HN.out, hown, hb⟩
                case measure => have := HJ.out; simp [intOf]; omega
          · have q2 : (2000 : Int) < ((l[j]).size : Int) := by omega
            have HN : Hid (pathB l = []) := Lib.hid (HB0.out j hlt (by unfold stepOk; rw [decide_eq_false hsz]; rfl))
            clear htx
            go_wp2_with fail
            go_ret
            exact ⟨ret_eq (congrArg (fun x => Value.string (str x)) HN.out.symm), b1⟩
      · obtain rfl : j = l.length := by omega
        have HF := Lib.hid (HB1.out HOK.out)
        have hfin : pathS (l.take l.length) = pathS l := by rw [List.take_length]
        rw [hfin] at hown
        have hcv := run_string_own (P := Tryd.prog) 25 9 5 Tryd.underlying25 Tryd.underlying5 Tryd.underlying9 hown
        clear hown
        go_wp2_with fail
        go_ret
        exact ⟨ret_eq (congrArg (fun x => Value.string (str x)) HF.out.symm), hb⟩
  · have q : (12 : Int) < (l.length : Int) := by omega
    have q0 : (0 : Int) < (l.length : Int) := by omega
    have HB : Hid (pathB l = []) := Lib.hid (by
      unfold pathB stepsOk
      rw [decide_eq_false h12]; rfl)
    clear hs hat
    go_enter Tryd.func24, Tryd.ntmps24
    go_wp2_with fail
    go_loopw [4] (fun i wr => i = .int .i64 0 ∧ Below w.heap.size w wr) (fun _ _ => 0)
    case atStart => exact ⟨rfl, (Below.refl _ _).alloc (Nat.le_refl _) _⟩
    case round =>
      obtain ⟨rfl, hb⟩ := hrel
      go_wp2_with fail
      go_ret
      exact ⟨ret_eq (congrArg (fun x => Value.string (str x)) HB.out.symm), hb⟩
end Go.Proofs.YtlgonfdodmipeaaDoor
