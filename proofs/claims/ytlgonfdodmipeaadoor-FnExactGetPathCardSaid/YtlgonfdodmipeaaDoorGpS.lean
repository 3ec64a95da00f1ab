/-
  GetPath of the reference.
-/
import Derived.Test.YtlgonfdodmipeaaDoorPathG
import Derived.Test.YtlgonfdodmipeaaDoorPathS
import Derived.Test.YtlgonfdodmipeaaDoorMarkT
namespace Go.Proofs.YtlgonfdodmipeaaDoor
open Go.RowKit
set_option linter.unusedVariables false
set_option linter.unusedSimpArgs false
set_option maxRecDepth 100000

theorem infoG : (Tryd.prog.info? 9).map (fun i => (i.zero, i.size, i.bytes)) = some (some (.string ⟨#[]⟩), 1, 16) := by kernel_rfl
theorem one_gv (s : ByteArray) : ∀ u ∈ #[Value.string s].toList, u.oneCell' = true := by
  intro u hu; simp at hu; subst hu; rfl
theorem ext_one (s : ByteArray) {j : Nat} (h : j < s.size) : s.extract j (j + 1) = str [s[j]] := by
  apply ByteArray.ext
  apply Array.ext'
  rw [ByteArray.data_extract, Array.toList_extract]
  show (s.data.toList.drop j).take (j + 1 - j) = [s[j]]
  rw [drop_at s h, show j + 1 - j = 1 by omega]
  rfl
theorem str_app (a b : List UInt8) : str a ++ str b = str (a ++ b) := by
  apply ByteArray.ext
  simp [str]
theorem str_inj {a b : List UInt8} (h : str a = str b) : a = b := by
  have := congrArg (fun x : ByteArray => x.data.toList) h
  simpa [str] using this
theorem str_of (s : ByteArray) : str s.data.toList = s := by
  apply ByteArray.ext
  simp [str]
theorem gp_ret {o o' : Value} {b b' : Bool} (h : o = o') (h2 : b = b') : (Value.tuple #[o, .bool b]) = .tuple #[o', .bool b'] := by rw [h, h2]

set_option maxHeartbeats 4000000 in
theorem specGetPath (s : ByteArray) (w : World) (hs : s.size ≤ 1048576) :
    Calls Tryd.prog 28 #[.string s] w fun e w' => ∃ o, e = .returned (.tuple #[o, .bool (gpOk s)]) ∧ w'.ownsRow w.heap.size 9 1 o (gpR s).length ((gpR s).map tv) ∧ Below w.heap.size w w' := by
  go_enter Tryd.func28, Tryd.ntmps28
  go_wp2_with fail
  go_loopw [4, 5, 6] (fun o i _ wr => ∃ (ss : List (List UInt8)) (j : Nat), j ≤ s.size ∧ i = .int .i64 j ∧ Gp s ss j ∧ wr.ownsRow w.heap.size 9 1 o ss.length (gcells ss) ∧ Below w.heap.size w wr) (fun _ i _ _ => s.size - (intOf i).toNat)
  case atStart => exact ⟨[], 0, Nat.zero_le _, rfl, Gp.start s, own_empty w _ _, (Below.refl _ _).alloc (Nat.le_refl _) _⟩
  case round =>
    obtain ⟨ss, j, hj, rfl, hgp, hown, hb⟩ := hrel
    have hlen := hgp.2.1
    have HG := Lib.hid hgp
    clear hgp
    by_cases hlt : j < s.size
    · by_cases c47 : s[j].toNat = 47
      · have HN := Lib.hid (HG.out.slash hlt (UInt8.toNat_inj.1 c47))
        have hcn := cells_new wr #[.string ⟨#[]⟩] 9
        have HC := Lib.hid hcn
        clear hcn
        go_wp2_with (at_builtin; refine wpList_app rfl (.tmp 18) (.tmp 19) 37 rfl w.heap.size 9 Tryd.underlying37 infoG rfl (by decide) (W := w) rfl (hown.alloc _) (hb.alloc hb.size _) (Nat.le_trans hb.size (by simp)) _ 1 1 _ rfl rfl HC.out (one_gv _) (by unfold maxLen; omega) (by omega) ?_; intro v' w' hown' hb' hB')
        have HO2 := Lib.hid hown'
        clear hown' hown
        go_roundw
        case rel => exact ⟨ss ++ [[]], j + 1, by omega, by go_num, HN.out, by rw [gcells_snoc, List.length_append]; exact HO2.out, hb'⟩
        case measure => simp [intOf]; omega
      · have n47 : ¬ (s[j].toNat : Int) = 47 := by omega
        have h47 : s[j] ≠ 47 := fun e => c47 (by rw [e]; rfl)
        by_cases hnil : ss = []
        · subst hnil
          have HGO := Lib.hid (gp_no (HG.out.none hlt h47).2)
          have HGR : Hid (gpR s = []) := Lib.hid (by unfold gpR; rw [HGO.out]; rfl)
          obtain ⟨A, c, rfl, _⟩ := row_form hown
          clear hown h47
          go_wp2_with fail
          go_ret2
          refine ⟨.slice (some ⟨wr.heap.size, 0, none⟩) 0 0, ret_eq (gp_ret rfl HGO.out.symm), ?_, hb.alloc hb.size _⟩
          rw [HGR.out]
          exact own_empty' _ _ hb.size
        · obtain ⟨done, cur, rfl, hw, hd1, hd2, hd3⟩ := HG.out.open hnil
          have HW := Lib.hid hw
          have HD3 := Lib.hid hd3
          have HL := Lib.hid (gcells_last done cur)
          have hsl : (done ++ [cur]).length = done.length + 1 := by simp
          rw [hsl] at hown hlen
          obtain ⟨A, c, rfl, hA⟩ := row_form hown
          obtain ⟨g, rfl⟩ := hA (by omega)
          have k0 := hown.frozenAt done.length
          have d0 := (hown.cellAt done.length (by omega)).trans HL.out
          have hcs : (str cur).size ≤ 1048576 := by rw [str_len]; omega
          have HO := Lib.hid hown
          have hbg := (hown.lt g rfl).1
          have hl0 : ¬ ((done.length + 1 : Nat) : Int) = 0 := by omega
          clear hw hd3 hA hown hnil hsl
          by_cases c126 : s[j].toNat = 126
          · have h126 : s[j] = 126 := UInt8.toNat_inj.1 c126
            have HX : Hid (s.extract j (j + 1) = ⟨#[126]⟩) := Lib.hid (by rw [ext_one s hlt, h126]; rfl)
            by_cases hmore : j + 1 < s.size
            · by_cases c49 : s[j + 1].toNat = 49
              · have HN := Lib.hid (gp_mk (c := 47) (show j + 1 ≤ j + 2 by omega) (gp_two hmore h126 (if_pos (UInt8.toNat_inj.1 c49)) HW.out) hd1 hd2 HD3.out)
                have HE : Hid ((gcells (done ++ [cur])).set done.length (.string (str cur ++ ⟨#[47]⟩)) = gcells (done ++ [cur ++ [47]])) := Lib.hid (by
                  rw [show str cur ++ (⟨#[47]⟩ : ByteArray) = str (cur ++ [47]) from str_app cur [47]]
                  exact gcells_set done cur _)
                clear h47 h126
                go_wp2_with (rw [HX.out])
                go_roundw
                case rel => exact ⟨done ++ [cur ++ [47]], j + 2, by omega, by go_num, HN.out, by rw [← HE.out, List.length_append]; exact (HO.out.stored done.length _).1, hb.setCell hbg _⟩
                case measure => simp [intOf]; omega
              · have n49 : ¬ (s[j + 1].toNat : Int) = 49 := by omega
                have HN := Lib.hid (gp_mk (c := 126) (show j + 1 ≤ j + 2 by omega) (gp_two hmore h126 (if_neg (fun e => c49 (by rw [e]; rfl))) HW.out) hd1 hd2 HD3.out)
                have HE : Hid ((gcells (done ++ [cur])).set done.length (.string (str cur ++ ⟨#[126]⟩)) = gcells (done ++ [cur ++ [126]])) := Lib.hid (by
                  rw [show str cur ++ (⟨#[126]⟩ : ByteArray) = str (cur ++ [126]) from str_app cur [126]]
                  exact gcells_set done cur _)
                clear h47 h126
                go_wp2_with (rw [HX.out])
                go_roundw
                case rel => exact ⟨done ++ [cur ++ [126]], j + 2, by omega, by go_num, HN.out, by rw [← HE.out, List.length_append]; exact (HO.out.stored done.length _).1, hb.setCell hbg _⟩
                case measure => simp [intOf]; omega
            · have HN := Lib.hid (gp_mk (show j + 1 ≤ j + 1 by omega) (gp_one hlt h47 (fun _ => hmore) HW.out) hd1 hd2 HD3.out)
              have HE : Hid ((gcells (done ++ [cur])).set done.length (.string (str cur ++ s.extract j (j + 1))) = gcells (done ++ [cur ++ [s[j]]])) := Lib.hid (by
                rw [ext_one s hlt, str_app]
                exact gcells_set done cur _)
              have hes : (s.extract j (j + 1)).size ≤ 1 := by rw [ext_one s hlt, str_len]; simp
              clear h47 h126
              have q : ((s.extract j (j + 1)).toList == [126]) = true := by rw [HX.out, ByteArray.toList_eq]; rfl
              go_wp2_with fail
              go_roundw
              case rel => exact ⟨done ++ [cur ++ [s[j]]], j + 1, by omega, by go_num, HN.out, by rw [← HE.out, List.length_append]; exact (HO.out.stored done.length _).1, hb.setCell hbg _⟩
              case measure => simp [intOf]; omega
          · have h126 : s[j] ≠ 126 := fun e => c126 (by rw [e]; rfl)
            have HN := Lib.hid (gp_mk (show j + 1 ≤ j + 1 by omega) (gp_one hlt h47 (fun e => absurd e h126) HW.out) hd1 hd2 HD3.out)
            have HE : Hid ((gcells (done ++ [cur])).set done.length (.string (str cur ++ s.extract j (j + 1))) = gcells (done ++ [cur ++ [s[j]]])) := Lib.hid (by
              rw [ext_one s hlt, str_app]
              exact gcells_set done cur _)
            have hes : (s.extract j (j + 1)).size ≤ 1 := by rw [ext_one s hlt, str_len]; simp
            have q : ((s.extract j (j + 1)).toList == [126]) = false := by
              rw [beq_eq_false_iff_ne, ext_one s hlt, ByteArray.toList_eq]
              intro e
              simp [str] at e
              exact h126 e
            clear h47 h126
            go_wp2_with fail
            go_roundw
            case rel => exact ⟨done ++ [cur ++ [s[j]]], j + 1, by omega, by go_num, HN.out, by rw [← HE.out, List.length_append]; exact (HO.out.stored done.length _).1, hb.setCell hbg _⟩
            case measure => simp [intOf]; omega
    · obtain rfl : j = s.size := by omega
      have hr := HG.out.fin
      have hg := gp_read hr
      have hl : (ss.map str).length = ss.length := by simp
      have hsz : ∀ x ∈ ss.map str, x.size ≤ 1048576 := fun x hx => by
        obtain ⟨y, hy, rfl⟩ := List.mem_map.1 hx
        have := HG.out.2.2 y hy
        rw [str_len]; omega
      have HSZ := Lib.hid hsz
      rw [← hl] at hown
      obtain ⟨A, c, rfl, _⟩ := row_form hown
      have hl2 : (ss.map str).length ≤ 1048576 := by omega
      have A1 : At1 wr wr.heap.size A ((ss.map str).map Value.string) := At1.own hown
      have HGG := Lib.hid hg
      have hcall := specPutPath (ss.map str) A c wr hl2 HSZ.out A1
      rw [hl] at hcall hown
      have HCALL := Lib.hid hcall
      have HO := Lib.hid hown
      clear hown hg hsz hr hl hcall
      go_wp2_with fail
      refine HCALL.out.mono ?_
      rintro e w1 ⟨rfl, hb1⟩
      have b1 := hb.trans (hb1.mono hb.size)
      have hz := Nat.le_trans hb.size hb1.size
      have HO1 := Lib.hid (own_below HO.out hb1)
      clear A1
      have hsl : (ss.map str).length = ss.length := by simp
      cases hgo : gpOk s with
      | true =>
        have q : ((str (pathB (ss.map str))).toList == s.toList) = true := by
          rw [(HGG.out.1).2 hgo, str_of]
          simp
        have HR := Lib.hid (HGG.out.2 hgo)
        go_wp2_with fail
        go_ret2
        refine ⟨_, by rw [hgo]; rfl, ?_, b1⟩
        rw [HR.out]
        rw [hsl]
        exact HO1.out
      | false =>
        have q : ((str (pathB (ss.map str))).toList == s.toList) = false := by
          rw [beq_eq_false_iff_ne, ByteArray.toList_eq, ByteArray.toList_eq]
          intro e
          have : gpOk s = true := (HGG.out.1).1 (by rw [← e]; simp [str])
          rw [hgo] at this
          cases this
        have HR : Hid (gpR s = []) := Lib.hid (by unfold gpR; rw [hgo]; rfl)
        go_wp2_with fail
        go_ret2
        refine ⟨.slice (some ⟨w1.heap.size, 0, none⟩) 0 0, by rw [hgo]; rfl, ?_, b1.alloc hz _⟩
        rw [HR.out]
        exact own_empty' _ _ hz
end Go.Proofs.YtlgonfdodmipeaaDoor
