/-
  The texts on which the last one leans, part 2: Lcg, DrawX, Text, Lit, TextW.
-/
import Derived.Test.YtcjamnfboifjeaaDoorPLFnSorteda
import Derived.Deep.LoopGhost
/-
  The drawing cursor's numbers: from every state a state is reached from which three good bytes follow.
-/
namespace Go.Proofs.YtcjamnfboifjeaaDoor
open Go.RowKit
set_option linter.unusedVariables false
set_option maxRecDepth 100000

/-- The next state. -/
def lcg (h : Int) : Int := wrap64 (wrap64 (h * 6364136223846793005) + 1442695040888963407)
theorem lcg_mod (h : Int) : lcg h % 18446744073709551616 = (6364136223846793005 * h + 1442695040888963407) % 18446744073709551616 ∧ -9223372036854775808 ≤ lcg h ∧ lcg h ≤ 9223372036854775807 := by
  unfold lcg
  rw [wrap64_eq, wrap64_eq]
  omega
def lcgN : Nat → Int → Int
  | 0, h => h
  | n + 1, h => lcgN n (lcg h)
theorem lcgN_add : ∀ (m n : Nat) (h : Int), lcgN (m + n) h = lcgN n (lcgN m h)
  | 0, n, h => by rw [Nat.zero_add]; rfl
  | m + 1, n, h => by rw [show m + 1 + n = (m + n) + 1 by omega]; exact lcgN_add m n (lcg h)
theorem lcgN_range : ∀ (n : Nat) (h : Int), -9223372036854775808 ≤ h ∧ h ≤ 9223372036854775807 → -9223372036854775808 ≤ lcgN n h ∧ lcgN n h ≤ 9223372036854775807
  | 0, h, hr => hr
  | n + 1, h, hr => lcgN_range n (lcg h) (lcg_mod h).2
theorem jump_comp (A C A2 C2 Q R h a y : Int) (hA : A * A = A2 + 18446744073709551616 * Q) (hC : A * C + C = C2 + 18446744073709551616 * R) (ha : a % 18446744073709551616 = (A * h + C) % 18446744073709551616) (hy : y % 18446744073709551616 = (A * a + C) % 18446744073709551616) :
    y % 18446744073709551616 = (A2 * h + C2) % 18446744073709551616 := by
  obtain ⟨k, hk⟩ : ∃ k, a = A * h + C + 18446744073709551616 * k := ⟨(a - (A * h + C)) / 18446744073709551616, by omega⟩
  have e : A * a + C = A2 * h + C2 + 18446744073709551616 * (Q * h + R + A * k) := by
    rw [hk, Int.mul_add, Int.mul_add, ← Int.mul_assoc, hA, Int.add_mul, Int.mul_left_comm A 18446744073709551616 k, Int.mul_add, Int.mul_add, Int.mul_assoc 18446744073709551616 Q h]
    generalize A2 * h = x1
    generalize Q * h = x2
    generalize A * k = x3
    generalize hx : A * C = x4 at hC ⊢
    omega
  rw [hy, e, Int.add_mul_emod_self_left]
theorem jump0 (h : Int) : lcgN 1 h % 18446744073709551616 = (6364136223846793005 * h + 1442695040888963407) % 18446744073709551616 := (lcg_mod h).1
theorem reach0 (h : Int) (hk : (h - 8) % 1 = 0) : ∃ m, m ≤ 1 ∧ (lcgN m h - 8) % 2 = 0 := by
  by_cases h2 : (h - 8) % 2 = 0
  · exact ⟨0, Nat.zero_le _, h2⟩
  · refine ⟨1, Nat.le_refl _, ?_⟩
    have hj := jump0 h
    have e : 6364136223846793005 * h + 1442695040888963407 = h + 1 + 2 * (3182068111923396502 * h + 721347520444481703) := by omega
    rw [e] at hj
    generalize 3182068111923396502 * h + 721347520444481703 = w at hj
    clear e
    generalize lcgN 1 h = y at hj ⊢
    omega
theorem jump1 (h : Int) : lcgN 2 h % 18446744073709551616 = (7520897724310334953 * h + 1876011003808476466) % 18446744073709551616 := by
  have e : lcgN 2 h = lcgN 1 (lcgN 1 h) := lcgN_add 1 1 h
  rw [e]
  exact jump_comp 6364136223846793005 1442695040888963407 7520897724310334953 1876011003808476466 2195630281085919242 497730533529282336 h _ _ (by decide) (by decide) (jump0 h) (jump0 (lcgN 1 h))
theorem reach1 (h : Int) (hk : (h - 8) % 2 = 0) : ∃ m, m ≤ 2 ∧ (lcgN m h - 8) % 4 = 0 := by
  by_cases h2 : (h - 8) % 4 = 0
  · exact ⟨0, Nat.zero_le _, h2⟩
  · refine ⟨2, Nat.le_refl _, ?_⟩
    have hj := jump1 h
    have e : 7520897724310334953 * h + 1876011003808476466 = h + 2 + 4 * (1880224431077583738 * h + 469002750952119116) := by omega
    rw [e] at hj
    generalize 1880224431077583738 * h + 469002750952119116 = w at hj
    clear e
    generalize lcgN 2 h = y at hj ⊢
    omega
theorem jump2 (h : Int) : lcgN 4 h % 18446744073709551616 = (18108194425815612945 * h + 7401132627792533940) % 18446744073709551616 := by
  have e : lcgN 4 h = lcgN 2 (lcgN 2 h) := lcgN_add 2 2 h
  rw [e]
  exact jump_comp 7520897724310334953 1876011003808476466 18108194425815612945 7401132627792533940 3066335303049588304 764865974881333514 h _ _ (by decide) (by decide) (jump1 h) (jump1 (lcgN 2 h))
theorem reach2 (h : Int) (hk : (h - 8) % 4 = 0) : ∃ m, m ≤ 4 ∧ (lcgN m h - 8) % 8 = 0 := by
  by_cases h2 : (h - 8) % 8 = 0
  · exact ⟨0, Nat.zero_le _, h2⟩
  · refine ⟨4, Nat.le_refl _, ?_⟩
    have hj := jump2 h
    have e : 18108194425815612945 * h + 7401132627792533940 = h + 4 + 8 * (2263524303226951618 * h + 925141578474066742) := by omega
    rw [e] at hj
    generalize 2263524303226951618 * h + 925141578474066742 = w at hj
    clear e
    generalize lcgN 4 h = y at hj ⊢
    omega
theorem jump3 (h : Int) : lcgN 8 h % 18446744073709551616 = (13086856194709077281 * h + 6566661184467396264) % 18446744073709551616 := by
  have e : lcgN 8 h = lcgN 4 (lcgN 4 h) := lcgN_add 4 4 h
  rw [e]
  exact jump_comp 18108194425815612945 7401132627792533940 13086856194709077281 6566661184467396264 17775858116364010084 7265301023302147086 h _ _ (by decide) (by decide) (jump2 h) (jump2 (lcgN 4 h))
theorem reach3 (h : Int) (hk : (h - 8) % 8 = 0) : ∃ m, m ≤ 8 ∧ (lcgN m h - 8) % 16 = 0 := by
  by_cases h2 : (h - 8) % 16 = 0
  · exact ⟨0, Nat.zero_le _, h2⟩
  · refine ⟨8, Nat.le_refl _, ?_⟩
    have hj := jump3 h
    have e : 13086856194709077281 * h + 6566661184467396264 = h + 8 + 16 * (817928512169317330 * h + 410416324029212266) := by omega
    rw [e] at hj
    generalize 817928512169317330 * h + 410416324029212266 = w at hj
    clear e
    generalize lcgN 8 h = y at hj ⊢
    omega
theorem jump4 (h : Int) : lcgN 16 h % 18446744073709551616 = (10186629832379121217 * h + 3646985772805368400) % 18446744073709551616 := by
  have e : lcgN 16 h = lcgN 8 (lcgN 8 h) := lcgN_add 8 8 h
  rw [e]
  exact jump_comp 13086856194709077281 6566661184467396264 10186629832379121217 3646985772805368400 9284337895980502959 4658651426892230078 h _ _ (by decide) (by decide) (jump3 h) (jump3 (lcgN 8 h))
theorem reach4 (h : Int) (hk : (h - 8) % 16 = 0) : ∃ m, m ≤ 16 ∧ (lcgN m h - 8) % 32 = 0 := by
  by_cases h2 : (h - 8) % 32 = 0
  · exact ⟨0, Nat.zero_le _, h2⟩
  · refine ⟨16, Nat.le_refl _, ?_⟩
    have hj := jump4 h
    have e : 10186629832379121217 * h + 3646985772805368400 = h + 16 + 32 * (318332182261847538 * h + 113968305400167762) := by omega
    rw [e] at hj
    generalize 318332182261847538 * h + 113968305400167762 = w at hj
    clear e
    generalize lcgN 16 h = y at hj ⊢
    omega
theorem jump5 (h : Int) : lcgN 32 h % 18446744073709551616 = (10828933358287359105 * h + 982119659650238624) % 18446744073709551616 := by
  have e : lcgN 32 h = lcgN 16 (lcgN 16 h) := lcgN_add 16 16 h
  rw [e]
  exact jump_comp 10186629832379121217 3646985772805368400 10828933358287359105 982119659650238624 5625243507866868349 2013932319062667186 h _ _ (by decide) (by decide) (jump4 h) (jump4 (lcgN 16 h))
theorem reach5 (h : Int) (hk : (h - 8) % 32 = 0) : ∃ m, m ≤ 32 ∧ (lcgN m h - 8) % 64 = 0 := by
  by_cases h2 : (h - 8) % 64 = 0
  · exact ⟨0, Nat.zero_le _, h2⟩
  · refine ⟨32, Nat.le_refl _, ?_⟩
    have hj := jump5 h
    have e : 10828933358287359105 * h + 982119659650238624 = h + 32 + 64 * (169202083723239986 * h + 15345619682034978) := by omega
    rw [e] at hj
    generalize 169202083723239986 * h + 15345619682034978 = w at hj
    clear e
    generalize lcgN 32 h = y at hj ⊢
    omega
theorem jump6 (h : Int) : lcgN 64 h % 18446744073709551616 = (4910590176156014849 * h + 10607473198416945472) % 18446744073709551616 := by
  have e : lcgN 64 h = lcgN 32 (lcgN 32 h) := lcgN_add 32 32 h
  rw [e]
  exact jump_comp 10828933358287359105 982119659650238624 4910590176156014849 10607473198416945472 6356991630049061161 576541220592626092 h _ _ (by decide) (by decide) (jump5 h) (jump5 (lcgN 32 h))
theorem reach6 (h : Int) (hk : (h - 8) % 64 = 0) : ∃ m, m ≤ 64 ∧ (lcgN m h - 8) % 128 = 0 := by
  by_cases h2 : (h - 8) % 128 = 0
  · exact ⟨0, Nat.zero_le _, h2⟩
  · refine ⟨64, Nat.le_refl _, ?_⟩
    have hj := jump6 h
    have e : 4910590176156014849 * h + 10607473198416945472 = h + 64 + 128 * (38363985751218866 * h + 82870884362632386) := by omega
    rw [e] at hj
    generalize 38363985751218866 * h + 82870884362632386 = w at hj
    clear e
    generalize lcgN 64 h = y at hj ⊢
    omega
theorem jump7 (h : Int) : lcgN 128 h % 18446744073709551616 = (9908147928152388097 * h + 6914523672464851584) % 18446744073709551616 := by
  have e : lcgN 128 h = lcgN 64 (lcgN 64 h) := lcgN_add 64 64 h
  rw [e]
  exact jump_comp 4910590176156014849 10607473198416945472 9908147928152388097 6914523672464851584 1307216914909514019 2823747837225219126 h _ _ (by decide) (by decide) (jump6 h) (jump6 (lcgN 64 h))
theorem reach7 (h : Int) (hk : (h - 8) % 128 = 0) : ∃ m, m ≤ 128 ∧ (lcgN m h - 8) % 256 = 0 := by
  by_cases h2 : (h - 8) % 256 = 0
  · exact ⟨0, Nat.zero_le _, h2⟩
  · refine ⟨128, Nat.le_refl _, ?_⟩
    have hj := jump7 h
    have e : 9908147928152388097 * h + 6914523672464851584 = h + 128 + 256 * (38703702844345266 * h + 27009858095565826) := by omega
    rw [e] at hj
    generalize 38703702844345266 * h + 27009858095565826 = w at hj
    clear e
    generalize lcgN 128 h = y at hj ⊢
    omega
theorem jump8 (h : Int) : lcgN 256 h % 18446744073709551616 = (146241703003251713 * h + 4689171378020353280) % 18446744073709551616 := by
  have e : lcgN 256 h = lcgN 128 (lcgN 128 h) := lcgN_add 128 128 h
  rw [e]
  exact jump_comp 9908147928152388097 6914523672464851584 146241703003251713 4689171378020353280 5321882006595685631 3713941231349029297 h _ _ (by decide) (by decide) (jump7 h) (jump7 (lcgN 128 h))
theorem reach8 (h : Int) (hk : (h - 8) % 256 = 0) : ∃ m, m ≤ 256 ∧ (lcgN m h - 8) % 512 = 0 := by
  by_cases h2 : (h - 8) % 512 = 0
  · exact ⟨0, Nat.zero_le _, h2⟩
  · refine ⟨256, Nat.le_refl _, ?_⟩
    have hj := jump8 h
    have e : 146241703003251713 * h + 4689171378020353280 = h + 256 + 512 * (285628326178226 * h + 9158537847696002) := by omega
    rw [e] at hj
    generalize 285628326178226 * h + 9158537847696002 = w at hj
    clear e
    generalize lcgN 256 h = y at hj ⊢
    omega
theorem jump9 (h : Int) : lcgN 512 h % 18446744073709551616 = (7321387688379467777 * h + 8103286608563669504) % 18446744073709551616 := by
  have e : lcgN 512 h = lcgN 256 (lcgN 256 h) := lcgN_add 256 256 h
  rw [e]
  exact jump_comp 146241703003251713 4689171378020353280 7321387688379467777 8103286608563669504 1159371844257962 37174712526810676 h _ _ (by decide) (by decide) (jump8 h) (jump8 (lcgN 256 h))
theorem reach9 (h : Int) (hk : (h - 8) % 512 = 0) : ∃ m, m ≤ 512 ∧ (lcgN m h - 8) % 1024 = 0 := by
  by_cases h2 : (h - 8) % 1024 = 0
  · exact ⟨0, Nat.zero_le _, h2⟩
  · refine ⟨512, Nat.le_refl _, ?_⟩
    have hj := jump9 h
    have e : 7321387688379467777 * h + 8103286608563669504 = h + 512 + 1024 * (7149792664433074 * h + 7913365828675458) := by omega
    rw [e] at hj
    generalize 7149792664433074 * h + 7913365828675458 = w at hj
    clear e
    generalize lcgN 512 h = y at hj ⊢
    omega
theorem jump10 (h : Int) : lcgN 1024 h % 18446744073709551616 = (12255457568021647361 * h + 7710372194127975424) % 18446744073709551616 := by
  have e : lcgN 1024 h = lcgN 512 (lcgN 512 h) := lcgN_add 512 512 h
  rw [e]
  exact jump_comp 7321387688379467777 8103286608563669504 12255457568021647361 7710372194127975424 2905809148181844848 3216139529788457993 h _ _ (by decide) (by decide) (jump9 h) (jump9 (lcgN 512 h))
theorem reach10 (h : Int) (hk : (h - 8) % 1024 = 0) : ∃ m, m ≤ 1024 ∧ (lcgN m h - 8) % 2048 = 0 := by
  by_cases h2 : (h - 8) % 2048 = 0
  · exact ⟨0, Nat.zero_le _, h2⟩
  · refine ⟨1024, Nat.le_refl _, ?_⟩
    have hj := jump10 h
    have e : 12255457568021647361 * h + 7710372194127975424 = h + 1024 + 2048 * (5984110140635570 * h + 3764830172914050) := by omega
    rw [e] at hj
    generalize 5984110140635570 * h + 3764830172914050 = w at hj
    clear e
    generalize lcgN 1024 h = y at hj ⊢
    omega
theorem jump11 (h : Int) : lcgN 2048 h % 18446744073709551616 = (9867978473775767553 * h + 16043993925053589504) % 18446744073709551616 := by
  have e : lcgN 2048 h = lcgN 1024 (lcgN 1024 h) := lcgN_add 1024 1024 h
  rw [e]
  exact jump_comp 12255457568021647361 7710372194127975424 9867978473775767553 16043993925053589504 8142154496285334373 5122537553576361474 h _ _ (by decide) (by decide) (jump10 h) (jump10 (lcgN 1024 h))
theorem reach11 (h : Int) (hk : (h - 8) % 2048 = 0) : ∃ m, m ≤ 2048 ∧ (lcgN m h - 8) % 4096 = 0 := by
  by_cases h2 : (h - 8) % 4096 = 0
  · exact ⟨0, Nat.zero_le _, h2⟩
  · refine ⟨2048, Nat.le_refl _, ?_⟩
    have hj := jump11 h
    have e : 9867978473775767553 * h + 16043993925053589504 = h + 2048 + 4096 * (2409174432074162 * h + 3916990704358786) := by omega
    rw [e] at hj
    generalize 2409174432074162 * h + 3916990704358786 = w at hj
    clear e
    generalize lcgN 2048 h = y at hj ⊢
    omega
theorem jump12 (h : Int) : lcgN 4096 h % 18446744073709551616 = (5088048636545613825 * h + 1993901509916512256) % 18446744073709551616 := by
  have e : lcgN 4096 h = lcgN 2048 (lcgN 2048 h) := lcgN_add 2048 2048 h
  rw [e]
  exact jump_comp 9867978473775767553 16043993925053589504 5088048636545613825 1993901509916512256 5278817701910030349 8582641253827524685 h _ _ (by decide) (by decide) (jump11 h) (jump11 (lcgN 2048 h))
theorem reach12 (h : Int) (hk : (h - 8) % 4096 = 0) : ∃ m, m ≤ 4096 ∧ (lcgN m h - 8) % 8192 = 0 := by
  by_cases h2 : (h - 8) % 8192 = 0
  · exact ⟨0, Nat.zero_le _, h2⟩
  · refine ⟨4096, Nat.le_refl _, ?_⟩
    have hj := jump12 h
    have e : 5088048636545613825 * h + 1993901509916512256 = h + 4096 + 8192 * (621099687078322 * h + 243396180409730) := by omega
    rw [e] at hj
    generalize 621099687078322 * h + 243396180409730 = w at hj
    clear e
    generalize lcgN 4096 h = y at hj ⊢
    omega
theorem jump13 (h : Int) : lcgN 8192 h % 18446744073709551616 = (2150478223927705601 * h + 13175896319671181312) % 18446744073709551616 := by
  have e : lcgN 8192 h = lcgN 4096 (lcgN 4096 h) := lcgN_add 4096 4096 h
  rw [e]
  exact jump_comp 5088048636545613825 1993901509916512256 2150478223927705601 13175896319671181312 1403404244370138289 549965230633615359 h _ _ (by decide) (by decide) (jump12 h) (jump12 (lcgN 4096 h))
theorem reach13 (h : Int) (hk : (h - 8) % 8192 = 0) : ∃ m, m ≤ 8192 ∧ (lcgN m h - 8) % 16384 = 0 := by
  by_cases h2 : (h - 8) % 16384 = 0
  · exact ⟨0, Nat.zero_le _, h2⟩
  · refine ⟨8192, Nat.le_refl _, ?_⟩
    have hj := jump13 h
    have e : 2150478223927705601 * h + 13175896319671181312 = h + 8192 + 16384 * (131254774409650 * h + 804192890604930) := by omega
    rw [e] at hj
    generalize 131254774409650 * h + 804192890604930 = w at hj
    clear e
    generalize lcgN 8192 h = y at hj ⊢
    omega
theorem jump14 (h : Int) : lcgN 16384 h % 18446744073709551616 = (9196835419631190017 * h + 1993366741509554176) % 18446744073709551616 := by
  have e : lcgN 16384 h = lcgN 8192 (lcgN 8192 h) := lcgN_add 8192 8192 h
  rw [e]
  exact jump_comp 2150478223927705601 13175896319671181312 9196835419631190017 1993366741509554176 250697715169053299 1536015136490379428 h _ _ (by decide) (by decide) (jump13 h) (jump13 (lcgN 8192 h))
theorem reach14 (h : Int) (hk : (h - 8) % 16384 = 0) : ∃ m, m ≤ 16384 ∧ (lcgN m h - 8) % 32768 = 0 := by
  by_cases h2 : (h - 8) % 32768 = 0
  · exact ⟨0, Nat.zero_le _, h2⟩
  · refine ⟨16384, Nat.le_refl _, ?_⟩
    have hj := jump14 h
    have e : 9196835419631190017 * h + 1993366741509554176 = h + 16384 + 32768 * (280665143421362 * h + 60832725265794) := by omega
    rw [e] at hj
    generalize 280665143421362 * h + 60832725265794 = w at hj
    clear e
    generalize lcgN 16384 h = y at hj ⊢
    omega
theorem jump15 (h : Int) : lcgN 32768 h % 18446744073709551616 = (5957860013156466689 * h + 7241871532530761728) % 18446744073709551616 := by
  have e : lcgN 32768 h = lcgN 16384 (lcgN 16384 h) := lcgN_add 16384 16384 h
  rw [e]
  exact jump_comp 9196835419631190017 1993366741509554176 5957860013156466689 7241871532530761728 4585187575531523975 993815807243606840 h _ _ (by decide) (by decide) (jump14 h) (jump14 (lcgN 16384 h))
theorem reach15 (h : Int) (hk : (h - 8) % 32768 = 0) : ∃ m, m ≤ 32768 ∧ (lcgN m h - 8) % 65536 = 0 := by
  by_cases h2 : (h - 8) % 65536 = 0
  · exact ⟨0, Nat.zero_le _, h2⟩
  · refine ⟨32768, Nat.le_refl _, ?_⟩
    have hj := jump15 h
    have e : 5957860013156466689 * h + 7241871532530761728 = h + 32768 + 65536 * (90909729204658 * h + 110502190132610) := by omega
    rw [e] at hj
    generalize 90909729204658 * h + 110502190132610 = w at hj
    clear e
    generalize lcgN 32768 h = y at hj ⊢
    omega
theorem jump16 (h : Int) : lcgN 65536 h % 18446744073709551616 = (10389140232424652801 * h + 9829074100562493440) % 18446744073709551616 := by
  have e : lcgN 65536 h = lcgN 32768 (lcgN 32768 h) := lcgN_add 32768 32768 h
  rw [e]
  exact jump_comp 5957860013156466689 7241871532530761728 10389140232424652801 9829074100562493440 1924247216448245495 2338952427142591180 h _ _ (by decide) (by decide) (jump15 h) (jump15 (lcgN 32768 h))
theorem reach16 (h : Int) (hk : (h - 8) % 65536 = 0) : ∃ m, m ≤ 65536 ∧ (lcgN m h - 8) % 131072 = 0 := by
  by_cases h2 : (h - 8) % 131072 = 0
  · exact ⟨0, Nat.zero_le _, h2⟩
  · refine ⟨65536, Nat.le_refl _, ?_⟩
    have hj := jump16 h
    have e : 10389140232424652801 * h + 9829074100562493440 = h + 65536 + 131072 * (79262849673650 * h + 74989884190082) := by omega
    rw [e] at hj
    generalize 79262849673650 * h + 74989884190082 = w at hj
    clear e
    generalize lcgN 65536 h = y at hj ⊢
    omega
theorem jump17 (h : Int) : lcgN 131072 h % 18446744073709551616 = (13023643825678581761 * h + 7211655632440131584) % 18446744073709551616 := by
  have e : lcgN 131072 h = lcgN 65536 (lcgN 65536 h) := lcgN_add 65536 65536 h
  rw [e]
  exact jump_comp 10389140232424652801 9829074100562493440 13023643825678581761 7211655632440131584 5851126591104676865 5535699350389588606 h _ _ (by decide) (by decide) (jump16 h) (jump16 (lcgN 65536 h))
theorem reach17 (h : Int) (hk : (h - 8) % 131072 = 0) : ∃ m, m ≤ 131072 ∧ (lcgN m h - 8) % 262144 = 0 := by
  by_cases h2 : (h - 8) % 262144 = 0
  · exact ⟨0, Nat.zero_le _, h2⟩
  · refine ⟨131072, Nat.le_refl _, ?_⟩
    have hj := jump17 h
    have e : 13023643825678581761 * h + 7211655632440131584 = h + 131072 + 262144 * (49681258490290 * h + 27510283021698) := by omega
    rw [e] at hj
    generalize 49681258490290 * h + 27510283021698 = w at hj
    clear e
    generalize lcgN 131072 h = y at hj ⊢
    omega
theorem jump18 (h : Int) : lcgN 262144 h % 18446744073709551616 = (288945459443007489 * h + 14014807304630960128) % 18446744073709551616 := by
  have e : lcgN 262144 h = lcgN 131072 (lcgN 131072 h) := lcgN_add 131072 131072 h
  rw [e]
  exact jump_comp 13023643825678581761 7211655632440131584 288945459443007489 14014807304630960128 9194863755922810027 5091523684345332680 h _ _ (by decide) (by decide) (jump17 h) (jump17 (lcgN 131072 h))
theorem reach18 (h : Int) (hk : (h - 8) % 262144 = 0) : ∃ m, m ≤ 262144 ∧ (lcgN m h - 8) % 524288 = 0 := by
  by_cases h2 : (h - 8) % 524288 = 0
  · exact ⟨0, Nat.zero_le _, h2⟩
  · refine ⟨262144, Nat.le_refl _, ?_⟩
    have hj := jump18 h
    have e : 288945459443007489 * h + 14014807304630960128 = h + 262144 + 524288 * (551119727026 * h + 26731123551618) := by omega
    rw [e] at hj
    generalize 551119727026 * h + 26731123551618 = w at hj
    clear e
    generalize lcgN 262144 h = y at hj ⊢
    omega
theorem jump19 (h : Int) : lcgN 524288 h % 18446744073709551616 = (13413133364217511937 * h + 15586959662575517696) % 18446744073709551616 := by
  have e : lcgN 524288 h = lcgN 262144 (lcgN 262144 h) := lcgN_add 262144 262144 h
  rw [e]
  exact jump_comp 288945459443007489 14014807304630960128 13413133364217511937 15586959662575517696 4525973700243424 219524644536767414 h _ _ (by decide) (by decide) (jump18 h) (jump18 (lcgN 262144 h))
theorem reach19 (h : Int) (hk : (h - 8) % 524288 = 0) : ∃ m, m ≤ 524288 ∧ (lcgN m h - 8) % 1048576 = 0 := by
  by_cases h2 : (h - 8) % 1048576 = 0
  · exact ⟨0, Nat.zero_le _, h2⟩
  · refine ⟨524288, Nat.le_refl _, ?_⟩
    have hj := jump19 h
    have e : 13413133364217511937 * h + 15586959662575517696 = h + 524288 + 1048576 * (12791760791986 * h + 14864883101058) := by omega
    rw [e] at hj
    generalize 12791760791986 * h + 14864883101058 = w at hj
    clear e
    generalize lcgN 524288 h = y at hj ⊢
    omega
theorem jump20 (h : Int) : lcgN 1048576 h % 18446744073709551616 = (8991946233350193153 * h + 5614651135149211648) % 18446744073709551616 := by
  have e : lcgN 1048576 h = lcgN 524288 (lcgN 524288 h) := lcgN_add 524288 524288 h
  rw [e]
  exact jump_comp 13413133364217511937 15586959662575517696 8991946233350193153 5614651135149211648 9753057012521642326 11333705713127576450 h _ _ (by decide) (by decide) (jump19 h) (jump19 (lcgN 524288 h))
theorem reach20 (h : Int) (hk : (h - 8) % 1048576 = 0) : ∃ m, m ≤ 1048576 ∧ (lcgN m h - 8) % 2097152 = 0 := by
  by_cases h2 : (h - 8) % 2097152 = 0
  · exact ⟨0, Nat.zero_le _, h2⟩
  · refine ⟨1048576, Nat.le_refl _, ?_⟩
    have hj := jump20 h
    have e : 8991946233350193153 * h + 5614651135149211648 = h + 1048576 + 2097152 * (4287694088626 * h + 2677274291586) := by omega
    rw [e] at hj
    generalize 4287694088626 * h + 2677274291586 = w at hj
    clear e
    generalize lcgN 1048576 h = y at hj ⊢
    omega
theorem jump21 (h : Int) : lcgN 2097152 h % 18446744073709551616 = (1986842707489718273 * h + 10449321915693662208) % 18446744073709551616 := by
  have e : lcgN 2097152 h = lcgN 1048576 (lcgN 1048576 h) := lcgN_add 1048576 1048576 h
  rw [e]
  exact jump_comp 8991946233350193153 5614651135149211648 1986842707489718273 10449321915693662208 4383163594636522471 2736886299530457949 h _ _ (by decide) (by decide) (jump20 h) (jump20 (lcgN 1048576 h))
theorem reach21 (h : Int) (hk : (h - 8) % 2097152 = 0) : ∃ m, m ≤ 2097152 ∧ (lcgN m h - 8) % 4194304 = 0 := by
  by_cases h2 : (h - 8) % 4194304 = 0
  · exact ⟨0, Nat.zero_le _, h2⟩
  · refine ⟨2097152, Nat.le_refl _, ?_⟩
    have hj := jump21 h
    have e : 1986842707489718273 * h + 10449321915693662208 = h + 2097152 + 4194304 * (473700215218 * h + 2491312483714) := by omega
    rw [e] at hj
    generalize 473700215218 * h + 2491312483714 = w at hj
    clear e
    generalize lcgN 2097152 h = y at hj ⊢
    omega
theorem jump22 (h : Int) : lcgN 4194304 h % 18446744073709551616 = (13772462672974970881 * h + 17778722412968280064) % 18446744073709551616 := by
  have e : lcgN 4194304 h = lcgN 2097152 (lcgN 2097152 h) := lcgN_add 2097152 2097152 h
  rw [e]
  exact jump_comp 1986842707489718273 10449321915693662208 13772462672974970881 17778722412968280064 213996786019877928 1125464687071656008 h _ _ (by decide) (by decide) (jump21 h) (jump21 (lcgN 2097152 h))
theorem reach22 (h : Int) (hk : (h - 8) % 4194304 = 0) : ∃ m, m ≤ 4194304 ∧ (lcgN m h - 8) % 8388608 = 0 := by
  by_cases h2 : (h - 8) % 8388608 = 0
  · exact ⟨0, Nat.zero_le _, h2⟩
  · refine ⟨4194304, Nat.le_refl _, ?_⟩
    have hj := jump22 h
    have e : 13772462672974970881 * h + 17778722412968280064 = h + 4194304 + 8388608 * (1641805490610 * h + 2119388867970) := by omega
    rw [e] at hj
    generalize 1641805490610 * h + 2119388867970 = w at hj
    clear e
    generalize lcgN 4194304 h = y at hj ⊢
    omega
theorem jump23 (h : Int) : lcgN 8388608 h % 18446744073709551616 = (11399802156803424257 * h + 4631015078550831104) % 18446744073709551616 := by
  have e : lcgN 8388608 h = lcgN 4194304 (lcgN 4194304 h) := lcgN_add 4194304 4194304 h
  rw [e]
  exact jump_comp 13772462672974970881 17778722412968280064 11399802156803424257 4631015078550831104 10282612873066493219 13273713226973263809 h _ _ (by decide) (by decide) (jump22 h) (jump22 (lcgN 4194304 h))
theorem reach23 (h : Int) (hk : (h - 8) % 8388608 = 0) : ∃ m, m ≤ 8388608 ∧ (lcgN m h - 8) % 16777216 = 0 := by
  by_cases h2 : (h - 8) % 16777216 = 0
  · exact ⟨0, Nat.zero_le _, h2⟩
  · refine ⟨8388608, Nat.le_refl _, ?_⟩
    have hj := jump23 h
    have e : 11399802156803424257 * h + 4631015078550831104 = h + 8388608 + 16777216 * (679481158066 * h + 276030008706) := by omega
    rw [e] at hj
    generalize 679481158066 * h + 276030008706 = w at hj
    clear e
    generalize lcgN 8388608 h = y at hj ⊢
    omega
theorem jump24 (h : Int) : lcgN 16777216 h % 18446744073709551616 = (13559343778149433345 * h + 14683519683525607424) % 18446744073709551616 := by
  have e : lcgN 16777216 h = lcgN 8388608 (lcgN 8388608 h) := lcgN_add 8388608 8388608 h
  rw [e]
  exact jump_comp 11399802156803424257 4631015078550831104 13559343778149433345 14683519683525607424 7044901186625861769 2861895599012156413 h _ _ (by decide) (by decide) (jump23 h) (jump23 (lcgN 8388608 h))
theorem reach24 (h : Int) (hk : (h - 8) % 16777216 = 0) : ∃ m, m ≤ 16777216 ∧ (lcgN m h - 8) % 33554432 = 0 := by
  by_cases h2 : (h - 8) % 33554432 = 0
  · exact ⟨0, Nat.zero_le _, h2⟩
  · refine ⟨16777216, Nat.le_refl _, ?_⟩
    have hj := jump24 h
    have e : 13559343778149433345 * h + 14683519683525607424 = h + 16777216 + 33554432 * (404099934642 * h + 437602987394) := by omega
    rw [e] at hj
    generalize 404099934642 * h + 437602987394 = w at hj
    clear e
    generalize lcgN 16777216 h = y at hj ⊢
    omega
theorem jump25 (h : Int) : lcgN 33554432 h % 18446744073709551616 = (8604389488178757633 * h + 14159509325327892480) % 18446744073709551616 := by
  have e : lcgN 33554432 h = lcgN 16777216 (lcgN 16777216 h) := lcgN_add 16777216 16777216 h
  rw [e]
  exact jump_comp 13559343778149433345 14683519683525607424 8604389488178757633 14159509325327892480 9966843089457316387 10793172522293786614 h _ _ (by decide) (by decide) (jump24 h) (jump24 (lcgN 16777216 h))
theorem reach25 (h : Int) (hk : (h - 8) % 33554432 = 0) : ∃ m, m ≤ 33554432 ∧ (lcgN m h - 8) % 67108864 = 0 := by
  by_cases h2 : (h - 8) % 67108864 = 0
  · exact ⟨0, Nat.zero_le _, h2⟩
  · refine ⟨33554432, Nat.le_refl _, ?_⟩
    have hj := jump25 h
    have e : 8604389488178757633 * h + 14159509325327892480 = h + 33554432 + 67108864 * (128215394738 * h + 210993130882) := by omega
    rw [e] at hj
    generalize 128215394738 * h + 210993130882 = w at hj
    clear e
    generalize lcgN 33554432 h = y at hj ⊢
    omega
theorem jump26 (h : Int) : lcgN 67108864 h % 18446744073709551616 = (16938562998715285505 * h + 4382386631181598720) % 18446744073709551616 := by
  have e : lcgN 67108864 h = lcgN 33554432 (lcgN 33554432 h) := lcgN_add 33554432 33554432 h
  rw [e]
  exact jump_comp 8604389488178757633 14159509325327892480 16938562998715285505 4382386631181598720 4013473498003212424 6604630752711483350 h _ _ (by decide) (by decide) (jump25 h) (jump25 (lcgN 33554432 h))
theorem reach26 (h : Int) (hk : (h - 8) % 67108864 = 0) : ∃ m, m ≤ 67108864 ∧ (lcgN m h - 8) % 134217728 = 0 := by
  by_cases h2 : (h - 8) % 134217728 = 0
  · exact ⟨0, Nat.zero_le _, h2⟩
  · refine ⟨67108864, Nat.le_refl _, ?_⟩
    have hj := jump26 h
    have e : 16938562998715285505 * h + 4382386631181598720 = h + 67108864 + 134217728 * (126202128818 * h + 32651324802) := by omega
    rw [e] at hj
    generalize 126202128818 * h + 32651324802 = w at hj
    clear e
    generalize lcgN 67108864 h = y at hj ⊢
    omega
theorem jump27 (h : Int) : lcgN 134217728 h % 18446744073709551616 = (14349518013152100353 * h + 5251965553014210560) % 18446744073709551616 := by
  have e : lcgN 134217728 h = lcgN 67108864 (lcgN 67108864 h) := lcgN_add 67108864 67108864 h
  rw [e]
  exact jump_comp 16938562998715285505 4382386631181598720 14349518013152100353 5251965553014210560 15553688787299869217 4024088573050257235 h _ _ (by decide) (by decide) (jump26 h) (jump26 (lcgN 67108864 h))
theorem reach27 (h : Int) (hk : (h - 8) % 134217728 = 0) : ∃ m, m ≤ 134217728 ∧ (lcgN m h - 8) % 268435456 = 0 := by
  by_cases h2 : (h - 8) % 268435456 = 0
  · exact ⟨0, Nat.zero_le _, h2⟩
  · refine ⟨134217728, Nat.le_refl _, ?_⟩
    have hj := jump27 h
    have e : 14349518013152100353 * h + 5251965553014210560 = h + 134217728 + 268435456 * (53456120242 * h + 19565096322) := by omega
    rw [e] at hj
    generalize 53456120242 * h + 19565096322 = w at hj
    clear e
    generalize lcgN 134217728 h = y at hj ⊢
    omega
theorem jump28 (h : Int) : lcgN 268435456 h % 18446744073709551616 = (5928836310318972929 * h + 14899444342342025216) % 18446744073709551616 := by
  have e : lcgN 268435456 h = lcgN 134217728 (lcgN 134217728 h) := lcgN_add 134217728 134217728 h
  rw [e]
  exact jump_comp 14349518013152100353 5251965553014210560 5928836310318972929 14899444342342025216 11162331216121727105 4085445865476062539 h _ _ (by decide) (by decide) (jump27 h) (jump27 (lcgN 134217728 h))
theorem reach28 (h : Int) (hk : (h - 8) % 268435456 = 0) : ∃ m, m ≤ 268435456 ∧ (lcgN m h - 8) % 536870912 = 0 := by
  by_cases h2 : (h - 8) % 536870912 = 0
  · exact ⟨0, Nat.zero_le _, h2⟩
  · refine ⟨268435456, Nat.le_refl _, ?_⟩
    have hj := jump28 h
    have e : 5928836310318972929 * h + 14899444342342025216 = h + 268435456 + 536870912 * (11043318194 * h + 27752377730) := by omega
    rw [e] at hj
    generalize 11043318194 * h + 27752377730 = w at hj
    clear e
    generalize lcgN 268435456 h = y at hj ⊢
    omega
theorem jump29 (h : Int) : lcgN 536870912 h % 18446744073709551616 = (13010594125244792833 * h + 10487453482519363584) % 18446744073709551616 := by
  have e : lcgN 536870912 h = lcgN 268435456 (lcgN 268435456 h) := lcgN_add 268435456 268435456 h
  rw [e]
  exact jump_comp 5928836310318972929 14899444342342025216 13010594125244792833 10487453482519363584 1905544948967678463 4788724029968610606 h _ _ (by decide) (by decide) (jump28 h) (jump28 (lcgN 268435456 h))
theorem reach29 (h : Int) (hk : (h - 8) % 536870912 = 0) : ∃ m, m ≤ 536870912 ∧ (lcgN m h - 8) % 1073741824 = 0 := by
  by_cases h2 : (h - 8) % 1073741824 = 0
  · exact ⟨0, Nat.zero_le _, h2⟩
  · refine ⟨536870912, Nat.le_refl _, ?_⟩
    have hj := jump29 h
    have e : 13010594125244792833 * h + 10487453482519363584 = h + 536870912 + 1073741824 * (12117060018 * h + 9767202178) := by omega
    rw [e] at hj
    generalize 12117060018 * h + 9767202178 = w at hj
    clear e
    generalize lcgN 536870912 h = y at hj ⊢
    omega
theorem jump30 (h : Int) : lcgN 1073741824 h % 18446744073709551616 = (12186130195207421953 * h + 17516142451218186240) % 18446744073709551616 := by
  have e : lcgN 1073741824 h = lcgN 536870912 (lcgN 536870912 h) := lcgN_add 536870912 536870912 h
  rw [e]
  exact jump_comp 13010594125244792833 10487453482519363584 12186130195207421953 17516142451218186240 9176446467488385021 7396860937801553076 h _ _ (by decide) (by decide) (jump29 h) (jump29 (lcgN 536870912 h))
theorem reach30 (h : Int) (hk : (h - 8) % 1073741824 = 0) : ∃ m, m ≤ 1073741824 ∧ (lcgN m h - 8) % 2147483648 = 0 := by
  by_cases h2 : (h - 8) % 2147483648 = 0
  · exact ⟨0, Nat.zero_le _, h2⟩
  · refine ⟨1073741824, Nat.le_refl _, ?_⟩
    have hj := jump30 h
    have e : 12186130195207421953 * h + 17516142451218186240 = h + 1073741824 + 2147483648 * (5674609074 * h + 8156589442) := by omega
    rw [e] at hj
    generalize 5674609074 * h + 8156589442 = w at hj
    clear e
    generalize lcgN 1073741824 h = y at hj ⊢
    omega
theorem jump31 (h : Int) : lcgN 2147483648 h % 18446744073709551616 = (5925516316705292289 * h + 2750482773444657152) % 18446744073709551616 := by
  have e : lcgN 2147483648 h = lcgN 1073741824 (lcgN 1073741824 h) := lcgN_add 1073741824 1073741824 h
  rw [e]
  exact jump_comp 12186130195207421953 17516142451218186240 5925516316705292289 2750482773444657152 8050297035680784370 11571364115825775313 h _ _ (by decide) (by decide) (jump30 h) (jump30 (lcgN 1073741824 h))
theorem reach31 (h : Int) (hk : (h - 8) % 2147483648 = 0) : ∃ m, m ≤ 2147483648 ∧ (lcgN m h - 8) % 4294967296 = 0 := by
  by_cases h2 : (h - 8) % 4294967296 = 0
  · exact ⟨0, Nat.zero_le _, h2⟩
  · refine ⟨2147483648, Nat.le_refl _, ?_⟩
    have hj := jump31 h
    have e : 5925516316705292289 * h + 2750482773444657152 = h + 2147483648 + 4294967296 * (1379641778 * h + 640396674) := by omega
    rw [e] at hj
    generalize 1379641778 * h + 640396674 = w at hj
    clear e
    generalize lcgN 2147483648 h = y at hj ⊢
    omega
theorem jump32 (h : Int) : lcgN 4294967296 h % 18446744073709551616 = (11851032633410584577 * h + 5500965546889314304) % 18446744073709551616 := by
  have e : lcgN 4294967296 h = lcgN 2147483648 (lcgN 2147483648 h) := lcgN_add 2147483648 2147483648 h
  rw [e]
  exact jump_comp 5925516316705292289 2750482773444657152 11851032633410584577 5500965546889314304 1903411435603001284 883518006632467261 h _ _ (by decide) (by decide) (jump31 h) (jump31 (lcgN 2147483648 h))
theorem reach32 (h : Int) (hk : (h - 8) % 4294967296 = 0) : ∃ m, m ≤ 4294967296 ∧ (lcgN m h - 8) % 8589934592 = 0 := by
  by_cases h2 : (h - 8) % 8589934592 = 0
  · exact ⟨0, Nat.zero_le _, h2⟩
  · refine ⟨4294967296, Nat.le_refl _, ?_⟩
    have hj := jump32 h
    have e : 11851032633410584577 * h + 5500965546889314304 = h + 4294967296 + 8589934592 * (1379641778 * h + 640396674) := by omega
    rw [e] at hj
    generalize 1379641778 * h + 640396674 = w at hj
    clear e
    generalize lcgN 4294967296 h = y at hj ⊢
    omega
theorem jump33 (h : Int) : lcgN 8589934592 h % 18446744073709551616 = (5255321193111617537 * h + 11001931093778628608) % 18446744073709551616 := by
  have e : lcgN 8589934592 h = lcgN 4294967296 (lcgN 4294967296 h) := lcgN_add 4294967296 4294967296 h
  rw [e]
  exact jump_comp 11851032633410584577 5500965546889314304 5255321193111617537 11001931093778628608 7613645742412005137 3534072026529869044 h _ _ (by decide) (by decide) (jump32 h) (jump32 (lcgN 4294967296 h))
theorem reach33 (h : Int) (hk : (h - 8) % 8589934592 = 0) : ∃ m, m ≤ 8589934592 ∧ (lcgN m h - 8) % 17179869184 = 0 := by
  by_cases h2 : (h - 8) % 17179869184 = 0
  · exact ⟨0, Nat.zero_le _, h2⟩
  · refine ⟨8589934592, Nat.le_refl _, ?_⟩
    have hj := jump33 h
    have e : 5255321193111617537 * h + 11001931093778628608 = h + 8589934592 + 17179869184 * (305899954 * h + 640396674) := by omega
    rw [e] at hj
    generalize 305899954 * h + 640396674 = w at hj
    clear e
    generalize lcgN 8589934592 h = y at hj ⊢
    omega
theorem jump34 (h : Int) : lcgN 17179869184 h % 18446744073709551616 = (10510642386223235073 * h + 3557118113847705600) % 18446744073709551616 := by
  have e : lcgN 17179869184 h = lcgN 8589934592 (lcgN 8589934592 h) := lcgN_add 8589934592 8589934592 h
  rw [e]
  exact jump_comp 5255321193111617537 11001931093778628608 10510642386223235073 3557118113847705600 1497196509715233856 3134357012340847569 h _ _ (by decide) (by decide) (jump33 h) (jump33 (lcgN 8589934592 h))
theorem reach34 (h : Int) (hk : (h - 8) % 17179869184 = 0) : ∃ m, m ≤ 17179869184 ∧ (lcgN m h - 8) % 34359738368 = 0 := by
  by_cases h2 : (h - 8) % 34359738368 = 0
  · exact ⟨0, Nat.zero_le _, h2⟩
  · refine ⟨17179869184, Nat.le_refl _, ?_⟩
    have hj := jump34 h
    have e : 10510642386223235073 * h + 3557118113847705600 = h + 17179869184 + 34359738368 * (305899954 * h + 103525762) := by omega
    rw [e] at hj
    generalize 305899954 * h + 103525762 = w at hj
    clear e
    generalize lcgN 17179869184 h = y at hj ⊢
    omega
theorem jump35 (h : Int) : lcgN 34359738368 h % 18446744073709551616 = (2574540698736918529 * h + 7114236227695411200) % 18446744073709551616 := by
  have e : lcgN 34359738368 h = lcgN 17179869184 (lcgN 17179869184 h) := lcgN_add 17179869184 17179869184 h
  rw [e]
  exact jump_comp 10510642386223235073 3557118113847705600 2574540698736918529 7114236227695411200 5988786038860935425 2026785663140155200 h _ _ (by decide) (by decide) (jump34 h) (jump34 (lcgN 17179869184 h))
theorem reach35 (h : Int) (hk : (h - 8) % 34359738368 = 0) : ∃ m, m ≤ 34359738368 ∧ (lcgN m h - 8) % 68719476736 = 0 := by
  by_cases h2 : (h - 8) % 68719476736 = 0
  · exact ⟨0, Nat.zero_le _, h2⟩
  · refine ⟨34359738368, Nat.le_refl _, ?_⟩
    have hj := jump35 h
    have e : 2574540698736918529 * h + 7114236227695411200 = h + 34359738368 + 68719476736 * (37464498 * h + 103525762) := by omega
    rw [e] at hj
    generalize 37464498 * h + 103525762 = w at hj
    clear e
    generalize lcgN 34359738368 h = y at hj ⊢
    omega
theorem jump36 (h : Int) : lcgN 68719476736 h % 18446744073709551616 = (5149081397473837057 * h + 14228472455390822400) % 18446744073709551616 := by
  have e : lcgN 68719476736 h = lcgN 34359738368 (lcgN 34359738368 h) := lcgN_add 34359738368 34359738368 h
  rw [e]
  exact jump_comp 2574540698736918529 7114236227695411200 5149081397473837057 14228472455390822400 359318684260353024 992906424865209600 h _ _ (by decide) (by decide) (jump35 h) (jump35 (lcgN 34359738368 h))
theorem reach36 (h : Int) (hk : (h - 8) % 68719476736 = 0) : ∃ m, m ≤ 68719476736 ∧ (lcgN m h - 8) % 137438953472 = 0 := by
  by_cases h2 : (h - 8) % 137438953472 = 0
  · exact ⟨0, Nat.zero_le _, h2⟩
  · refine ⟨68719476736, Nat.le_refl _, ?_⟩
    have hj := jump36 h
    have e : 5149081397473837057 * h + 14228472455390822400 = h + 68719476736 + 137438953472 * (37464498 * h + 103525762) := by omega
    rw [e] at hj
    generalize 37464498 * h + 103525762 = w at hj
    clear e
    generalize lcgN 68719476736 h = y at hj ⊢
    omega
theorem jump37 (h : Int) : lcgN 137438953472 h % 18446744073709551616 = (10298162794947674113 * h + 10010200837072093184) % 18446744073709551616 := by
  have e : lcgN 137438953472 h = lcgN 68719476736 (lcgN 68719476736 h) := lcgN_add 68719476736 68719476736 h
  rw [e]
  exact jump_comp 5149081397473837057 14228472455390822400 10298162794947674113 10010200837072093184 1437274737041412096 3971625699460838401 h _ _ (by decide) (by decide) (jump36 h) (jump36 (lcgN 68719476736 h))
theorem reach37 (h : Int) (hk : (h - 8) % 137438953472 = 0) : ∃ m, m ≤ 137438953472 ∧ (lcgN m h - 8) % 274877906944 = 0 := by
  by_cases h2 : (h - 8) % 274877906944 = 0
  · exact ⟨0, Nat.zero_le _, h2⟩
  · refine ⟨137438953472, Nat.le_refl _, ?_⟩
    have hj := jump37 h
    have e : 10298162794947674113 * h + 10010200837072093184 = h + 137438953472 + 274877906944 * (37464498 * h + 36416898) := by omega
    rw [e] at hj
    generalize 37464498 * h + 36416898 = w at hj
    clear e
    generalize lcgN 137438953472 h = y at hj ⊢
    omega
theorem jump38 (h : Int) : lcgN 274877906944 h % 18446744073709551616 = (2149581516185796609 * h + 1573657600434634752) % 18446744073709551616 := by
  have e : lcgN 274877906944 h = lcgN 137438953472 (lcgN 137438953472 h) := lcgN_add 137438953472 137438953472 h
  rw [e]
  exact jump_comp 10298162794947674113 10010200837072093184 2149581516185796609 1573657600434634752 5749098948165648385 5588340002895679489 h _ _ (by decide) (by decide) (jump37 h) (jump37 (lcgN 137438953472 h))
theorem reach38 (h : Int) (hk : (h - 8) % 274877906944 = 0) : ∃ m, m ≤ 274877906944 ∧ (lcgN m h - 8) % 549755813888 = 0 := by
  by_cases h2 : (h - 8) % 549755813888 = 0
  · exact ⟨0, Nat.zero_le _, h2⟩
  · refine ⟨274877906944, Nat.le_refl _, ?_⟩
    have hj := jump38 h
    have e : 2149581516185796609 * h + 1573657600434634752 = h + 274877906944 + 549755813888 * (3910066 * h + 2862466) := by omega
    rw [e] at hj
    generalize 3910066 * h + 2862466 = w at hj
    clear e
    generalize lcgN 274877906944 h = y at hj ⊢
    omega
theorem jump39 (h : Int) : lcgN 549755813888 h % 18446744073709551616 = (4299163032371593217 * h + 3147315200869269504) % 18446744073709551616 := by
  have e : lcgN 549755813888 h = lcgN 274877906944 (lcgN 274877906944 h) := lcgN_add 274877906944 274877906944 h
  rw [e]
  exact jump_comp 2149581516185796609 1573657600434634752 4299163032371593217 3147315200869269504 250488686581448704 183376821252734976 h _ _ (by decide) (by decide) (jump38 h) (jump38 (lcgN 274877906944 h))
theorem reach39 (h : Int) (hk : (h - 8) % 549755813888 = 0) : ∃ m, m ≤ 549755813888 ∧ (lcgN m h - 8) % 1099511627776 = 0 := by
  by_cases h2 : (h - 8) % 1099511627776 = 0
  · exact ⟨0, Nat.zero_le _, h2⟩
  · refine ⟨549755813888, Nat.le_refl _, ?_⟩
    have hj := jump39 h
    have e : 4299163032371593217 * h + 3147315200869269504 = h + 549755813888 + 1099511627776 * (3910066 * h + 2862466) := by omega
    rw [e] at hj
    generalize 3910066 * h + 2862466 = w at hj
    clear e
    generalize lcgN 549755813888 h = y at hj ⊢
    omega
theorem jump40 (h : Int) : lcgN 1099511627776 h % 18446744073709551616 = (8598326064743186433 * h + 6294630401738539008) % 18446744073709551616 := by
  have e : lcgN 1099511627776 h = lcgN 549755813888 (lcgN 549755813888 h) := lcgN_add 549755813888 549755813888 h
  rw [e]
  exact jump_comp 4299163032371593217 3147315200869269504 8598326064743186433 6294630401738539008 1001954746325794816 733507285010939904 h _ _ (by decide) (by decide) (jump39 h) (jump39 (lcgN 549755813888 h))
theorem reach40 (h : Int) (hk : (h - 8) % 1099511627776 = 0) : ∃ m, m ≤ 1099511627776 ∧ (lcgN m h - 8) % 2199023255552 = 0 := by
  by_cases h2 : (h - 8) % 2199023255552 = 0
  · exact ⟨0, Nat.zero_le _, h2⟩
  · refine ⟨1099511627776, Nat.le_refl _, ?_⟩
    have hj := jump40 h
    have e : 8598326064743186433 * h + 6294630401738539008 = h + 1099511627776 + 2199023255552 * (3910066 * h + 2862466) := by omega
    rw [e] at hj
    generalize 3910066 * h + 2862466 = w at hj
    clear e
    generalize lcgN 1099511627776 h = y at hj ⊢
    omega
theorem jump41 (h : Int) : lcgN 2199023255552 h % 18446744073709551616 = (17196652129486372865 * h + 12589260803477078016) % 18446744073709551616 := by
  have e : lcgN 2199023255552 h = lcgN 1099511627776 (lcgN 1099511627776 h) := lcgN_add 1099511627776 1099511627776 h
  rw [e]
  exact jump_comp 8598326064743186433 6294630401738539008 17196652129486372865 12589260803477078016 4007818985303179264 2934029140043759616 h _ _ (by decide) (by decide) (jump40 h) (jump40 (lcgN 1099511627776 h))
theorem reach41 (h : Int) (hk : (h - 8) % 2199023255552 = 0) : ∃ m, m ≤ 2199023255552 ∧ (lcgN m h - 8) % 4398046511104 = 0 := by
  by_cases h2 : (h - 8) % 4398046511104 = 0
  · exact ⟨0, Nat.zero_le _, h2⟩
  · refine ⟨2199023255552, Nat.le_refl _, ?_⟩
    have hj := jump41 h
    have e : 17196652129486372865 * h + 12589260803477078016 = h + 2199023255552 + 4398046511104 * (3910066 * h + 2862466) := by omega
    rw [e] at hj
    generalize 3910066 * h + 2862466 = w at hj
    clear e
    generalize lcgN 2199023255552 h = y at hj ⊢
    omega
theorem jump42 (h : Int) : lcgN 4398046511104 h % 18446744073709551616 = (15946560185263194113 * h + 6731777533244604416) % 18446744073709551616 := by
  have e : lcgN 4398046511104 h = lcgN 2199023255552 (lcgN 2199023255552 h) := lcgN_add 2199023255552 2199023255552 h
  rw [e]
  exact jump_comp 17196652129486372865 12589260803477078016 15946560185263194113 6731777533244604416 16031275941212717057 11736116560175038465 h _ _ (by decide) (by decide) (jump41 h) (jump41 (lcgN 2199023255552 h))
theorem reach42 (h : Int) (hk : (h - 8) % 4398046511104 = 0) : ∃ m, m ≤ 4398046511104 ∧ (lcgN m h - 8) % 8796093022208 = 0 := by
  by_cases h2 : (h - 8) % 8796093022208 = 0
  · exact ⟨0, Nat.zero_le _, h2⟩
  · refine ⟨4398046511104, Nat.le_refl _, ?_⟩
    have hj := jump42 h
    have e : 15946560185263194113 * h + 6731777533244604416 = h + 4398046511104 + 8796093022208 * (1812914 * h + 765314) := by omega
    rw [e] at hj
    generalize 1812914 * h + 765314 = w at hj
    clear e
    generalize lcgN 4398046511104 h = y at hj ⊢
    omega
theorem jump43 (h : Int) : lcgN 8796093022208 h % 18446744073709551616 = (13446376296816836609 * h + 13463555066489208832) % 18446744073709551616 := by
  have e : lcgN 8796093022208 h = lcgN 4398046511104 (lcgN 4398046511104 h) := lcgN_add 4398046511104 4398046511104 h
  rw [e]
  exact jump_comp 15946560185263194113 6731777533244604416 13446376296816836609 13463555066489208832 13785239320614928385 5819384448482803712 h _ _ (by decide) (by decide) (jump42 h) (jump42 (lcgN 4398046511104 h))
theorem reach43 (h : Int) (hk : (h - 8) % 8796093022208 = 0) : ∃ m, m ≤ 8796093022208 ∧ (lcgN m h - 8) % 17592186044416 = 0 := by
  by_cases h2 : (h - 8) % 17592186044416 = 0
  · exact ⟨0, Nat.zero_le _, h2⟩
  · refine ⟨8796093022208, Nat.le_refl _, ?_⟩
    have hj := jump43 h
    have e : 13446376296816836609 * h + 13463555066489208832 = h + 8796093022208 + 17592186044416 * (764338 * h + 765314) := by omega
    rw [e] at hj
    generalize 764338 * h + 765314 = w at hj
    clear e
    generalize lcgN 8796093022208 h = y at hj ⊢
    omega
theorem jump44 (h : Int) : lcgN 17592186044416 h % 18446744073709551616 = (8446008519924121601 * h + 8480366059268866048) % 18446744073709551616 := by
  have e : lcgN 17592186044416 h = lcgN 8796093022208 (lcgN 8796093022208 h) := lcgN_add 8796093022208 8796093022208 h
  rw [e]
  exact jump_comp 13446376296816836609 13463555066489208832 8446008519924121601 8480366059268866048 9801460615116488705 9813982727442006017 h _ _ (by decide) (by decide) (jump43 h) (jump43 (lcgN 8796093022208 h))
theorem reach44 (h : Int) (hk : (h - 8) % 17592186044416 = 0) : ∃ m, m ≤ 17592186044416 ∧ (lcgN m h - 8) % 35184372088832 = 0 := by
  by_cases h2 : (h - 8) % 35184372088832 = 0
  · exact ⟨0, Nat.zero_le _, h2⟩
  · refine ⟨17592186044416, Nat.le_refl _, ?_⟩
    have hj := jump44 h
    have e : 8446008519924121601 * h + 8480366059268866048 = h + 17592186044416 + 35184372088832 * (240050 * h + 241026) := by omega
    rw [e] at hj
    generalize 240050 * h + 241026 = w at hj
    clear e
    generalize lcgN 17592186044416 h = y at hj ⊢
    omega
theorem jump45 (h : Int) : lcgN 35184372088832 h % 18446744073709551616 = (16892017039848243201 * h + 16960732118537732096) % 18446744073709551616 := by
  have e : lcgN 35184372088832 h = lcgN 17592186044416 (lcgN 17592186044416 h) := lcgN_add 17592186044416 17592186044416 h
  rw [e]
  exact jump_comp 8446008519924121601 8480366059268866048 16892017039848243201 16960732118537732096 3867081346908160000 3882812256865484800 h _ _ (by decide) (by decide) (jump44 h) (jump44 (lcgN 17592186044416 h))
theorem reach45 (h : Int) (hk : (h - 8) % 35184372088832 = 0) : ∃ m, m ≤ 35184372088832 ∧ (lcgN m h - 8) % 70368744177664 = 0 := by
  by_cases h2 : (h - 8) % 70368744177664 = 0
  · exact ⟨0, Nat.zero_le _, h2⟩
  · refine ⟨35184372088832, Nat.le_refl _, ?_⟩
    have hj := jump45 h
    have e : 16892017039848243201 * h + 16960732118537732096 = h + 35184372088832 + 70368744177664 * (240050 * h + 241026) := by omega
    rw [e] at hj
    generalize 240050 * h + 241026 = w at hj
    clear e
    generalize lcgN 35184372088832 h = y at hj ⊢
    omega
theorem jump46 (h : Int) : lcgN 70368744177664 h % 18446744073709551616 = (15337290005986934785 * h + 15474720163365912576) % 18446744073709551616 := by
  have e : lcgN 70368744177664 h = lcgN 35184372088832 (lcgN 35184372088832 h) := lcgN_add 35184372088832 35184372088832 h
  rw [e]
  exact jump_comp 16892017039848243201 16960732118537732096 15337290005986934785 15474720163365912576 15468325387632640001 15531249027461939201 h _ _ (by decide) (by decide) (jump45 h) (jump45 (lcgN 35184372088832 h))
theorem reach46 (h : Int) (hk : (h - 8) % 70368744177664 = 0) : ∃ m, m ≤ 70368744177664 ∧ (lcgN m h - 8) % 140737488355328 = 0 := by
  by_cases h2 : (h - 8) % 140737488355328 = 0
  · exact ⟨0, Nat.zero_le _, h2⟩
  · refine ⟨70368744177664, Nat.le_refl _, ?_⟩
    have hj := jump46 h
    have e : 15337290005986934785 * h + 15474720163365912576 = h + 70368744177664 + 140737488355328 * (108978 * h + 109954) := by omega
    rw [e] at hj
    generalize 108978 * h + 109954 = w at hj
    clear e
    generalize lcgN 70368744177664 h = y at hj ⊢
    omega
theorem jump47 (h : Int) : lcgN 140737488355328 h % 18446744073709551616 = (12227835938264317953 * h + 12502696253022273536) % 18446744073709551616 := by
  have e : lcgN 140737488355328 h = lcgN 70368744177664 (lcgN 70368744177664 h) := lcgN_add 70368744177664 70368744177664 h
  rw [e]
  exact jump_comp 15337290005986934785 15474720163365912576 12227835938264317953 12502696253022273536 12751977464847138817 12866241866785357825 h _ _ (by decide) (by decide) (jump46 h) (jump46 (lcgN 70368744177664 h))
theorem reach47 (h : Int) (hk : (h - 8) % 140737488355328 = 0) : ∃ m, m ≤ 140737488355328 ∧ (lcgN m h - 8) % 281474976710656 = 0 := by
  by_cases h2 : (h - 8) % 281474976710656 = 0
  · exact ⟨0, Nat.zero_le _, h2⟩
  · refine ⟨140737488355328, Nat.le_refl _, ?_⟩
    have hj := jump47 h
    have e : 12227835938264317953 * h + 12502696253022273536 = h + 140737488355328 + 281474976710656 * (43442 * h + 44418) := by omega
    rw [e] at hj
    generalize 43442 * h + 44418 = w at hj
    clear e
    generalize lcgN 140737488355328 h = y at hj ⊢
    omega
theorem jump48 (h : Int) : lcgN 281474976710656 h % 18446744073709551616 = (6008927802819084289 * h + 6558648432334995456) % 18446744073709551616 := by
  have e : lcgN 281474976710656 h = lcgN 140737488355328 (lcgN 140737488355328 h) := lcgN_add 140737488355328 140737488355328 h
  rw [e]
  exact jump_comp 12227835938264317953 12502696253022273536 6008927802819084289 6558648432334995456 8105493909150367745 8287691202145288193 h _ _ (by decide) (by decide) (jump47 h) (jump47 (lcgN 140737488355328 h))
theorem reach48 (h : Int) (hk : (h - 8) % 281474976710656 = 0) : ∃ m, m ≤ 281474976710656 ∧ (lcgN m h - 8) % 562949953421312 = 0 := by
  by_cases h2 : (h - 8) % 562949953421312 = 0
  · exact ⟨0, Nat.zero_le _, h2⟩
  · refine ⟨281474976710656, Nat.le_refl _, ?_⟩
    have hj := jump48 h
    have e : 6008927802819084289 * h + 6558648432334995456 = h + 281474976710656 + 562949953421312 * (10674 * h + 11650) := by omega
    rw [e] at hj
    generalize 10674 * h + 11650 = w at hj
    clear e
    generalize lcgN 281474976710656 h = y at hj ⊢
    omega
theorem jump49 (h : Int) : lcgN 562949953421312 h % 18446744073709551616 = (12017855605638168577 * h + 13117296864669990912) % 18446744073709551616 := by
  have e : lcgN 562949953421312 h = lcgN 281474976710656 (lcgN 281474976710656 h) := lcgN_add 281474976710656 281474976710656 h
  rw [e]
  exact jump_comp 6008927802819084289 6558648432334995456 12017855605638168577 13117296864669990912 1957375957253750784 2136444499717521408 h _ _ (by decide) (by decide) (jump48 h) (jump48 (lcgN 281474976710656 h))
theorem reach49 (h : Int) (hk : (h - 8) % 562949953421312 = 0) : ∃ m, m ≤ 562949953421312 ∧ (lcgN m h - 8) % 1125899906842624 = 0 := by
  by_cases h2 : (h - 8) % 1125899906842624 = 0
  · exact ⟨0, Nat.zero_le _, h2⟩
  · refine ⟨562949953421312, Nat.le_refl _, ?_⟩
    have hj := jump49 h
    have e : 12017855605638168577 * h + 13117296864669990912 = h + 562949953421312 + 1125899906842624 * (10674 * h + 11650) := by omega
    rw [e] at hj
    generalize 10674 * h + 11650 = w at hj
    clear e
    generalize lcgN 562949953421312 h = y at hj ⊢
    omega
theorem jump50 (h : Int) : lcgN 1125899906842624 h % 18446744073709551616 = (5588967137566785537 * h + 7787849655630430208) % 18446744073709551616 := by
  have e : lcgN 1125899906842624 h = lcgN 562949953421312 (lcgN 562949953421312 h) := lcgN_add 562949953421312 562949953421312 h
  rw [e]
  exact jump_comp 12017855605638168577 13117296864669990912 5588967137566785537 7787849655630430208 7829503829015003137 8545777998870085633 h _ _ (by decide) (by decide) (jump49 h) (jump49 (lcgN 562949953421312 h))
theorem reach50 (h : Int) (hk : (h - 8) % 1125899906842624 = 0) : ∃ m, m ≤ 1125899906842624 ∧ (lcgN m h - 8) % 2251799813685248 = 0 := by
  by_cases h2 : (h - 8) % 2251799813685248 = 0
  · exact ⟨0, Nat.zero_le _, h2⟩
  · refine ⟨1125899906842624, Nat.le_refl _, ?_⟩
    have hj := jump50 h
    have e : 5588967137566785537 * h + 7787849655630430208 = h + 1125899906842624 + 2251799813685248 * (2482 * h + 3458) := by omega
    rw [e] at hj
    generalize 2482 * h + 3458 = w at hj
    clear e
    generalize lcgN 1125899906842624 h = y at hj ⊢
    omega
theorem jump51 (h : Int) : lcgN 2251799813685248 h % 18446744073709551616 = (11177934275133571073 * h + 15575699311260860416) % 18446744073709551616 := by
  have e : lcgN 2251799813685248 h = lcgN 1125899906842624 (lcgN 1125899906842624 h) := lcgN_add 1125899906842624 1125899906842624 h
  rw [e]
  exact jump_comp 5588967137566785537 7787849655630430208 11177934275133571073 15575699311260860416 1693336967216889856 2359551128573575168 h _ _ (by decide) (by decide) (jump50 h) (jump50 (lcgN 1125899906842624 h))
theorem reach51 (h : Int) (hk : (h - 8) % 2251799813685248 = 0) : ∃ m, m ≤ 2251799813685248 ∧ (lcgN m h - 8) % 4503599627370496 = 0 := by
  by_cases h2 : (h - 8) % 4503599627370496 = 0
  · exact ⟨0, Nat.zero_le _, h2⟩
  · refine ⟨2251799813685248, Nat.le_refl _, ?_⟩
    have hj := jump51 h
    have e : 11177934275133571073 * h + 15575699311260860416 = h + 2251799813685248 + 4503599627370496 * (2482 * h + 3458) := by omega
    rw [e] at hj
    generalize 2482 * h + 3458 = w at hj
    clear e
    generalize lcgN 2251799813685248 h = y at hj ⊢
    omega
theorem jump52 (h : Int) : lcgN 4503599627370496 h % 18446744073709551616 = (3909124476557590529 * h + 12704654548812169216) % 18446744073709551616 := by
  have e : lcgN 4503599627370496 h = lcgN 2251799813685248 (lcgN 2251799813685248 h) := lcgN_add 2251799813685248 2251799813685248 h
  rw [e]
  exact jump_comp 11177934275133571073 15575699311260860416 3909124476557590529 12704654548812169216 6773347868867559425 9438204514294300673 h _ _ (by decide) (by decide) (jump51 h) (jump51 (lcgN 2251799813685248 h))
theorem reach52 (h : Int) (hk : (h - 8) % 4503599627370496 = 0) : ∃ m, m ≤ 4503599627370496 ∧ (lcgN m h - 8) % 9007199254740992 = 0 := by
  by_cases h2 : (h - 8) % 9007199254740992 = 0
  · exact ⟨0, Nat.zero_le _, h2⟩
  · refine ⟨4503599627370496, Nat.le_refl _, ?_⟩
    have hj := jump52 h
    have e : 3909124476557590529 * h + 12704654548812169216 = h + 4503599627370496 + 9007199254740992 * (434 * h + 1410) := by omega
    rw [e] at hj
    generalize 434 * h + 1410 = w at hj
    clear e
    generalize lcgN 4503599627370496 h = y at hj ⊢
    omega
theorem jump53 (h : Int) : lcgN 9007199254740992 h % 18446744073709551616 = (7818248953115181057 * h + 6962565023914786816) % 18446744073709551616 := by
  have e : lcgN 9007199254740992 h = lcgN 4503599627370496 (lcgN 4503599627370496 h) := lcgN_add 4503599627370496 4503599627370496 h
  rw [e]
  exact jump_comp 3909124476557590529 12704654548812169216 7818248953115181057 6962565023914786816 828398448645505024 2692294958097891329 h _ _ (by decide) (by decide) (jump52 h) (jump52 (lcgN 4503599627370496 h))
theorem reach53 (h : Int) (hk : (h - 8) % 9007199254740992 = 0) : ∃ m, m ≤ 9007199254740992 ∧ (lcgN m h - 8) % 18014398509481984 = 0 := by
  by_cases h2 : (h - 8) % 18014398509481984 = 0
  · exact ⟨0, Nat.zero_le _, h2⟩
  · refine ⟨9007199254740992, Nat.le_refl _, ?_⟩
    have hj := jump53 h
    have e : 7818248953115181057 * h + 6962565023914786816 = h + 9007199254740992 + 18014398509481984 * (434 * h + 386) := by omega
    rw [e] at hj
    generalize 434 * h + 386 = w at hj
    clear e
    generalize lcgN 9007199254740992 h = y at hj ⊢
    omega
theorem jump54 (h : Int) : lcgN 18014398509481984 h % 18446744073709551616 = (15636497906230362113 * h + 13925130047829573632) % 18446744073709551616 := by
  have e : lcgN 18014398509481984 h = lcgN 9007199254740992 (lcgN 9007199254740992 h) := lcgN_add 9007199254740992 9007199254740992 h
  rw [e]
  exact jump_comp 7818248953115181057 6962565023914786816 15636497906230362113 13925130047829573632 3313593794582020096 2950930879276384256 h _ _ (by decide) (by decide) (jump53 h) (jump53 (lcgN 9007199254740992 h))
theorem reach54 (h : Int) (hk : (h - 8) % 18014398509481984 = 0) : ∃ m, m ≤ 18014398509481984 ∧ (lcgN m h - 8) % 36028797018963968 = 0 := by
  by_cases h2 : (h - 8) % 36028797018963968 = 0
  · exact ⟨0, Nat.zero_le _, h2⟩
  · refine ⟨18014398509481984, Nat.le_refl _, ?_⟩
    have hj := jump54 h
    have e : 15636497906230362113 * h + 13925130047829573632 = h + 18014398509481984 + 36028797018963968 * (434 * h + 386) := by omega
    rw [e] at hj
    generalize 434 * h + 386 = w at hj
    clear e
    generalize lcgN 18014398509481984 h = y at hj ⊢
    omega
theorem jump55 (h : Int) : lcgN 36028797018963968 h % 18446744073709551616 = (12826251738751172609 * h + 9403516021949595648) % 18446744073709551616 := by
  have e : lcgN 36028797018963968 h = lcgN 18014398509481984 (lcgN 18014398509481984 h) := lcgN_add 18014398509481984 18014398509481984 h
  rw [e]
  exact jump_comp 15636497906230362113 13925130047829573632 12826251738751172609 9403516021949595648 13254375178328080385 11803723517105537025 h _ _ (by decide) (by decide) (jump54 h) (jump54 (lcgN 18014398509481984 h))
theorem reach55 (h : Int) (hk : (h - 8) % 36028797018963968 = 0) : ∃ m, m ≤ 36028797018963968 ∧ (lcgN m h - 8) % 72057594037927936 = 0 := by
  by_cases h2 : (h - 8) % 72057594037927936 = 0
  · exact ⟨0, Nat.zero_le _, h2⟩
  · refine ⟨36028797018963968, Nat.le_refl _, ?_⟩
    have hj := jump55 h
    have e : 12826251738751172609 * h + 9403516021949595648 = h + 36028797018963968 + 72057594037927936 * (178 * h + 130) := by omega
    rw [e] at hj
    generalize 178 * h + 130 = w at hj
    clear e
    generalize lcgN 36028797018963968 h = y at hj ⊢
    omega
theorem jump56 (h : Int) : lcgN 72057594037927936 h % 18446744073709551616 = (7205759403792793601 * h + 360287970189639680) % 18446744073709551616 := by
  have e : lcgN 72057594037927936 h = lcgN 36028797018963968 (lcgN 36028797018963968 h) := lcgN_add 36028797018963968 36028797018963968 h
  rw [e]
  exact jump_comp 12826251738751172609 9403516021949595648 7205759403792793601 360287970189639680 8918253162100424705 6538382234011828225 h _ _ (by decide) (by decide) (jump55 h) (jump55 (lcgN 36028797018963968 h))
theorem reach56 (h : Int) (hk : (h - 8) % 72057594037927936 = 0) : ∃ m, m ≤ 72057594037927936 ∧ (lcgN m h - 8) % 144115188075855872 = 0 := by
  by_cases h2 : (h - 8) % 144115188075855872 = 0
  · exact ⟨0, Nat.zero_le _, h2⟩
  · refine ⟨72057594037927936, Nat.le_refl _, ?_⟩
    have hj := jump56 h
    have e : 7205759403792793601 * h + 360287970189639680 = h + 72057594037927936 + 144115188075855872 * (50 * h + 2) := by omega
    rw [e] at hj
    generalize 50 * h + 2 = w at hj
    clear e
    generalize lcgN 72057594037927936 h = y at hj ⊢
    omega
theorem jump57 (h : Int) : lcgN 144115188075855872 h % 18446744073709551616 = (14411518807585587201 * h + 720575940379279360) % 18446744073709551616 := by
  have e : lcgN 144115188075855872 h = lcgN 72057594037927936 (lcgN 72057594037927936 h) := lcgN_add 72057594037927936 72057594037927936 h
  rw [e]
  exact jump_comp 7205759403792793601 360287970189639680 14411518807585587201 720575940379279360 2814749767106560000 140737488355328000 h _ _ (by decide) (by decide) (jump56 h) (jump56 (lcgN 72057594037927936 h))
theorem reach57 (h : Int) (hk : (h - 8) % 144115188075855872 = 0) : ∃ m, m ≤ 144115188075855872 ∧ (lcgN m h - 8) % 288230376151711744 = 0 := by
  by_cases h2 : (h - 8) % 288230376151711744 = 0
  · exact ⟨0, Nat.zero_le _, h2⟩
  · refine ⟨144115188075855872, Nat.le_refl _, ?_⟩
    have hj := jump57 h
    have e : 14411518807585587201 * h + 720575940379279360 = h + 144115188075855872 + 288230376151711744 * (50 * h + 2) := by omega
    rw [e] at hj
    generalize 50 * h + 2 = w at hj
    clear e
    generalize lcgN 144115188075855872 h = y at hj ⊢
    omega
theorem jump58 (h : Int) : lcgN 288230376151711744 h % 18446744073709551616 = (10376293541461622785 * h + 1441151880758558720) % 18446744073709551616 := by
  have e : lcgN 288230376151711744 h = lcgN 144115188075855872 (lcgN 144115188075855872 h) := lcgN_add 144115188075855872 144115188075855872 h
  rw [e]
  exact jump_comp 14411518807585587201 720575940379279360 10376293541461622785 1441151880758558720 11258999068426240001 562949953421312000 h _ _ (by decide) (by decide) (jump57 h) (jump57 (lcgN 144115188075855872 h))
theorem reach58 (h : Int) (hk : (h - 8) % 288230376151711744 = 0) : ∃ m, m ≤ 288230376151711744 ∧ (lcgN m h - 8) % 576460752303423488 = 0 := by
  by_cases h2 : (h - 8) % 576460752303423488 = 0
  · exact ⟨0, Nat.zero_le _, h2⟩
  · refine ⟨288230376151711744, Nat.le_refl _, ?_⟩
    have hj := jump58 h
    have e : 10376293541461622785 * h + 1441151880758558720 = h + 288230376151711744 + 576460752303423488 * (18 * h + 2) := by omega
    rw [e] at hj
    generalize 18 * h + 2 = w at hj
    clear e
    generalize lcgN 288230376151711744 h = y at hj ⊢
    omega
theorem jump59 (h : Int) : lcgN 576460752303423488 h % 18446744073709551616 = (2305843009213693953 * h + 2882303761517117440) % 18446744073709551616 := by
  have e : lcgN 576460752303423488 h = lcgN 288230376151711744 (lcgN 288230376151711744 h) := lcgN_add 288230376151711744 288230376151711744 h
  rw [e]
  exact jump_comp 10376293541461622785 1441151880758558720 2305843009213693953 2882303761517117440 5836665117072162817 810647932926689280 h _ _ (by decide) (by decide) (jump58 h) (jump58 (lcgN 288230376151711744 h))
theorem reach59 (h : Int) (hk : (h - 8) % 576460752303423488 = 0) : ∃ m, m ≤ 576460752303423488 ∧ (lcgN m h - 8) % 1152921504606846976 = 0 := by
  by_cases h2 : (h - 8) % 1152921504606846976 = 0
  · exact ⟨0, Nat.zero_le _, h2⟩
  · refine ⟨576460752303423488, Nat.le_refl _, ?_⟩
    have hj := jump59 h
    have e : 2305843009213693953 * h + 2882303761517117440 = h + 576460752303423488 + 1152921504606846976 * (2 * h + 2) := by omega
    rw [e] at hj
    generalize 2 * h + 2 = w at hj
    clear e
    generalize lcgN 576460752303423488 h = y at hj ⊢
    omega
theorem jump60 (h : Int) : lcgN 1152921504606846976 h % 18446744073709551616 = (4611686018427387905 * h + 5764607523034234880) % 18446744073709551616 := by
  have e : lcgN 1152921504606846976 h = lcgN 576460752303423488 (lcgN 576460752303423488 h) := lcgN_add 576460752303423488 576460752303423488 h
  rw [e]
  exact jump_comp 2305843009213693953 2882303761517117440 4611686018427387905 5764607523034234880 288230376151711744 360287970189639680 h _ _ (by decide) (by decide) (jump59 h) (jump59 (lcgN 576460752303423488 h))
theorem reach60 (h : Int) (hk : (h - 8) % 1152921504606846976 = 0) : ∃ m, m ≤ 1152921504606846976 ∧ (lcgN m h - 8) % 2305843009213693952 = 0 := by
  by_cases h2 : (h - 8) % 2305843009213693952 = 0
  · exact ⟨0, Nat.zero_le _, h2⟩
  · refine ⟨1152921504606846976, Nat.le_refl _, ?_⟩
    have hj := jump60 h
    have e : 4611686018427387905 * h + 5764607523034234880 = h + 1152921504606846976 + 2305843009213693952 * (2 * h + 2) := by omega
    rw [e] at hj
    generalize 2 * h + 2 = w at hj
    clear e
    generalize lcgN 1152921504606846976 h = y at hj ⊢
    omega
theorem jump61 (h : Int) : lcgN 2305843009213693952 h % 18446744073709551616 = (9223372036854775809 * h + 11529215046068469760) % 18446744073709551616 := by
  have e : lcgN 2305843009213693952 h = lcgN 1152921504606846976 (lcgN 1152921504606846976 h) := lcgN_add 1152921504606846976 1152921504606846976 h
  rw [e]
  exact jump_comp 4611686018427387905 5764607523034234880 9223372036854775809 11529215046068469760 1152921504606846976 1441151880758558720 h _ _ (by decide) (by decide) (jump60 h) (jump60 (lcgN 1152921504606846976 h))
theorem reach61 (h : Int) (hk : (h - 8) % 2305843009213693952 = 0) : ∃ m, m ≤ 2305843009213693952 ∧ (lcgN m h - 8) % 4611686018427387904 = 0 := by
  by_cases h2 : (h - 8) % 4611686018427387904 = 0
  · exact ⟨0, Nat.zero_le _, h2⟩
  · refine ⟨2305843009213693952, Nat.le_refl _, ?_⟩
    have hj := jump61 h
    have e : 9223372036854775809 * h + 11529215046068469760 = h + 2305843009213693952 + 4611686018427387904 * (2 * h + 2) := by omega
    rw [e] at hj
    generalize 2 * h + 2 = w at hj
    clear e
    generalize lcgN 2305843009213693952 h = y at hj ⊢
    omega
theorem jump62 (h : Int) : lcgN 4611686018427387904 h % 18446744073709551616 = (1 * h + 4611686018427387904) % 18446744073709551616 := by
  have e : lcgN 4611686018427387904 h = lcgN 2305843009213693952 (lcgN 2305843009213693952 h) := lcgN_add 2305843009213693952 2305843009213693952 h
  rw [e]
  exact jump_comp 9223372036854775809 11529215046068469760 1 4611686018427387904 4611686018427387905 5764607523034234881 h _ _ (by decide) (by decide) (jump61 h) (jump61 (lcgN 2305843009213693952 h))
theorem reach62 (h : Int) (hk : (h - 8) % 4611686018427387904 = 0) : ∃ m, m ≤ 4611686018427387904 ∧ (lcgN m h - 8) % 9223372036854775808 = 0 := by
  by_cases h2 : (h - 8) % 9223372036854775808 = 0
  · exact ⟨0, Nat.zero_le _, h2⟩
  · refine ⟨4611686018427387904, Nat.le_refl _, ?_⟩
    have hj := jump62 h
    have e : 1 * h + 4611686018427387904 = h + 4611686018427387904 + 9223372036854775808 * (0 * h + 0) := by omega
    rw [e] at hj
    generalize 0 * h + 0 = w at hj
    clear e
    generalize lcgN 4611686018427387904 h = y at hj ⊢
    omega
theorem jump63 (h : Int) : lcgN 9223372036854775808 h % 18446744073709551616 = (1 * h + 9223372036854775808) % 18446744073709551616 := by
  have e : lcgN 9223372036854775808 h = lcgN 4611686018427387904 (lcgN 4611686018427387904 h) := lcgN_add 4611686018427387904 4611686018427387904 h
  rw [e]
  exact jump_comp 1 4611686018427387904 1 9223372036854775808 0 0 h _ _ (by decide) (by decide) (jump62 h) (jump62 (lcgN 4611686018427387904 h))
theorem reach63 (h : Int) (hk : (h - 8) % 9223372036854775808 = 0) : ∃ m, m ≤ 9223372036854775808 ∧ (lcgN m h - 8) % 18446744073709551616 = 0 := by
  by_cases h2 : (h - 8) % 18446744073709551616 = 0
  · exact ⟨0, Nat.zero_le _, h2⟩
  · refine ⟨9223372036854775808, Nat.le_refl _, ?_⟩
    have hj := jump63 h
    have e : 1 * h + 9223372036854775808 = h + 9223372036854775808 + 18446744073709551616 * (0 * h + 0) := by omega
    rw [e] at hj
    generalize 0 * h + 0 = w at hj
    clear e
    generalize lcgN 9223372036854775808 h = y at hj ⊢
    omega
theorem reach_all (h : Int) (hr : -9223372036854775808 ≤ h ∧ h ≤ 9223372036854775807) : ∃ m, m ≤ 18446744073709551616 ∧ lcgN m h = 8 := by
  have k0 : (lcgN 0 h - 8) % 1 = 0 := by omega
  obtain ⟨n0, b0, k1⟩ := reach0 _ k0
  rw [← lcgN_add] at k1
  obtain ⟨n1, b1, k2⟩ := reach1 _ k1
  rw [← lcgN_add] at k2
  obtain ⟨n2, b2, k3⟩ := reach2 _ k2
  rw [← lcgN_add] at k3
  obtain ⟨n3, b3, k4⟩ := reach3 _ k3
  rw [← lcgN_add] at k4
  obtain ⟨n4, b4, k5⟩ := reach4 _ k4
  rw [← lcgN_add] at k5
  obtain ⟨n5, b5, k6⟩ := reach5 _ k5
  rw [← lcgN_add] at k6
  obtain ⟨n6, b6, k7⟩ := reach6 _ k6
  rw [← lcgN_add] at k7
  obtain ⟨n7, b7, k8⟩ := reach7 _ k7
  rw [← lcgN_add] at k8
  obtain ⟨n8, b8, k9⟩ := reach8 _ k8
  rw [← lcgN_add] at k9
  obtain ⟨n9, b9, k10⟩ := reach9 _ k9
  rw [← lcgN_add] at k10
  obtain ⟨n10, b10, k11⟩ := reach10 _ k10
  rw [← lcgN_add] at k11
  obtain ⟨n11, b11, k12⟩ := reach11 _ k11
  rw [← lcgN_add] at k12
  obtain ⟨n12, b12, k13⟩ := reach12 _ k12
  rw [← lcgN_add] at k13
  obtain ⟨n13, b13, k14⟩ := reach13 _ k13
  rw [← lcgN_add] at k14
  obtain ⟨n14, b14, k15⟩ := reach14 _ k14
  rw [← lcgN_add] at k15
  obtain ⟨n15, b15, k16⟩ := reach15 _ k15
  rw [← lcgN_add] at k16
  obtain ⟨n16, b16, k17⟩ := reach16 _ k16
  rw [← lcgN_add] at k17
  obtain ⟨n17, b17, k18⟩ := reach17 _ k17
  rw [← lcgN_add] at k18
  obtain ⟨n18, b18, k19⟩ := reach18 _ k18
  rw [← lcgN_add] at k19
  obtain ⟨n19, b19, k20⟩ := reach19 _ k19
  rw [← lcgN_add] at k20
  obtain ⟨n20, b20, k21⟩ := reach20 _ k20
  rw [← lcgN_add] at k21
  obtain ⟨n21, b21, k22⟩ := reach21 _ k21
  rw [← lcgN_add] at k22
  obtain ⟨n22, b22, k23⟩ := reach22 _ k22
  rw [← lcgN_add] at k23
  obtain ⟨n23, b23, k24⟩ := reach23 _ k23
  rw [← lcgN_add] at k24
  obtain ⟨n24, b24, k25⟩ := reach24 _ k24
  rw [← lcgN_add] at k25
  obtain ⟨n25, b25, k26⟩ := reach25 _ k25
  rw [← lcgN_add] at k26
  obtain ⟨n26, b26, k27⟩ := reach26 _ k26
  rw [← lcgN_add] at k27
  obtain ⟨n27, b27, k28⟩ := reach27 _ k27
  rw [← lcgN_add] at k28
  obtain ⟨n28, b28, k29⟩ := reach28 _ k28
  rw [← lcgN_add] at k29
  obtain ⟨n29, b29, k30⟩ := reach29 _ k29
  rw [← lcgN_add] at k30
  obtain ⟨n30, b30, k31⟩ := reach30 _ k30
  rw [← lcgN_add] at k31
  obtain ⟨n31, b31, k32⟩ := reach31 _ k31
  rw [← lcgN_add] at k32
  obtain ⟨n32, b32, k33⟩ := reach32 _ k32
  rw [← lcgN_add] at k33
  obtain ⟨n33, b33, k34⟩ := reach33 _ k33
  rw [← lcgN_add] at k34
  obtain ⟨n34, b34, k35⟩ := reach34 _ k34
  rw [← lcgN_add] at k35
  obtain ⟨n35, b35, k36⟩ := reach35 _ k35
  rw [← lcgN_add] at k36
  obtain ⟨n36, b36, k37⟩ := reach36 _ k36
  rw [← lcgN_add] at k37
  obtain ⟨n37, b37, k38⟩ := reach37 _ k37
  rw [← lcgN_add] at k38
  obtain ⟨n38, b38, k39⟩ := reach38 _ k38
  rw [← lcgN_add] at k39
  obtain ⟨n39, b39, k40⟩ := reach39 _ k39
  rw [← lcgN_add] at k40
  obtain ⟨n40, b40, k41⟩ := reach40 _ k40
  rw [← lcgN_add] at k41
  obtain ⟨n41, b41, k42⟩ := reach41 _ k41
  rw [← lcgN_add] at k42
  obtain ⟨n42, b42, k43⟩ := reach42 _ k42
  rw [← lcgN_add] at k43
  obtain ⟨n43, b43, k44⟩ := reach43 _ k43
  rw [← lcgN_add] at k44
  obtain ⟨n44, b44, k45⟩ := reach44 _ k44
  rw [← lcgN_add] at k45
  obtain ⟨n45, b45, k46⟩ := reach45 _ k45
  rw [← lcgN_add] at k46
  obtain ⟨n46, b46, k47⟩ := reach46 _ k46
  rw [← lcgN_add] at k47
  obtain ⟨n47, b47, k48⟩ := reach47 _ k47
  rw [← lcgN_add] at k48
  obtain ⟨n48, b48, k49⟩ := reach48 _ k48
  rw [← lcgN_add] at k49
  obtain ⟨n49, b49, k50⟩ := reach49 _ k49
  rw [← lcgN_add] at k50
  obtain ⟨n50, b50, k51⟩ := reach50 _ k50
  rw [← lcgN_add] at k51
  obtain ⟨n51, b51, k52⟩ := reach51 _ k51
  rw [← lcgN_add] at k52
  obtain ⟨n52, b52, k53⟩ := reach52 _ k52
  rw [← lcgN_add] at k53
  obtain ⟨n53, b53, k54⟩ := reach53 _ k53
  rw [← lcgN_add] at k54
  obtain ⟨n54, b54, k55⟩ := reach54 _ k54
  rw [← lcgN_add] at k55
  obtain ⟨n55, b55, k56⟩ := reach55 _ k55
  rw [← lcgN_add] at k56
  obtain ⟨n56, b56, k57⟩ := reach56 _ k56
  rw [← lcgN_add] at k57
  obtain ⟨n57, b57, k58⟩ := reach57 _ k57
  rw [← lcgN_add] at k58
  obtain ⟨n58, b58, k59⟩ := reach58 _ k58
  rw [← lcgN_add] at k59
  obtain ⟨n59, b59, k60⟩ := reach59 _ k59
  rw [← lcgN_add] at k60
  obtain ⟨n60, b60, k61⟩ := reach60 _ k60
  rw [← lcgN_add] at k61
  obtain ⟨n61, b61, k62⟩ := reach61 _ k61
  rw [← lcgN_add] at k62
  obtain ⟨n62, b62, k63⟩ := reach62 _ k62
  rw [← lcgN_add] at k63
  obtain ⟨n63, b63, k64⟩ := reach63 _ k63
  rw [← lcgN_add] at k64
  have hm := lcgN_range (0 + n0 + n1 + n2 + n3 + n4 + n5 + n6 + n7 + n8 + n9 + n10 + n11 + n12 + n13 + n14 + n15 + n16 + n17 + n18 + n19 + n20 + n21 + n22 + n23 + n24 + n25 + n26 + n27 + n28 + n29 + n30 + n31 + n32 + n33 + n34 + n35 + n36 + n37 + n38 + n39 + n40 + n41 + n42 + n43 + n44 + n45 + n46 + n47 + n48 + n49 + n50 + n51 + n52 + n53 + n54 + n55 + n56 + n57 + n58 + n59 + n60 + n61 + n62 + n63) h hr
  refine ⟨0 + n0 + n1 + n2 + n3 + n4 + n5 + n6 + n7 + n8 + n9 + n10 + n11 + n12 + n13 + n14 + n15 + n16 + n17 + n18 + n19 + n20 + n21 + n22 + n23 + n24 + n25 + n26 + n27 + n28 + n29 + n30 + n31 + n32 + n33 + n34 + n35 + n36 + n37 + n38 + n39 + n40 + n41 + n42 + n43 + n44 + n45 + n46 + n47 + n48 + n49 + n50 + n51 + n52 + n53 + n54 + n55 + n56 + n57 + n58 + n59 + n60 + n61 + n62 + n63, by omega, ?_⟩
  generalize lcgN (0 + n0 + n1 + n2 + n3 + n4 + n5 + n6 + n7 + n8 + n9 + n10 + n11 + n12 + n13 + n14 + n15 + n16 + n17 + n18 + n19 + n20 + n21 + n22 + n23 + n24 + n25 + n26 + n27 + n28 + n29 + n30 + n31 + n32 + n33 + n34 + n35 + n36 + n37 + n38 + n39 + n40 + n41 + n42 + n43 + n44 + n45 + n46 + n47 + n48 + n49 + n50 + n51 + n52 + n53 + n54 + n55 + n56 + n57 + n58 + n59 + n60 + n61 + n62 + n63) h = y at hm k64
  omega
/-- What comes out of a state. -/
def lcgOut (h : Int) : Nat := (bits .xor .i64 (h / 8589934592) (h / 35184372088832) % 256).toNat
/-- From here the next byte lets a text grow. -/
def Grow1 (h : Int) : Prop := h = 8 ∨ h = lcg 8 ∨ h = lcg (lcg 8)
theorem grow1_out {h : Int} (hg : Grow1 h) : lcgOut (lcg h) % 5 ≠ 1 ∧ lcgOut (lcg h) % 5 ≠ 2 := by
  rcases hg with rfl | rfl | rfl
  · decide +kernel
  · decide +kernel
  · decide +kernel
/-- It will be so within g more bytes. -/
def Soon (g : Nat) (h : Int) : Prop := Grow1 h ∨ ∃ m, m ≤ g ∧ lcgN m h = 8
theorem soon_zero {h : Int} (hs : Soon 0 h) : Grow1 h := by
  rcases hs with hs | ⟨m, hm, e⟩
  · exact hs
  · obtain rfl : m = 0 := by omega
    exact .inl e
theorem soon_any (h : Int) : Soon 18446744073709551617 h := by
  obtain ⟨m, hm, e⟩ := reach_all (lcg h) (lcg_mod h).2
  exact .inr ⟨m + 1, by omega, e⟩
theorem soon_one {g : Nat} {h : Int} (hs : Soon (g + 1) h) (hn : ¬ Grow1 h) : Soon g (lcg h) := by
  rcases hs with hs | ⟨m, hm, e⟩
  · exact absurd hs hn
  · cases m with
    | zero => exact absurd (.inl e) hn
    | succ m => exact .inr ⟨m, by omega, e⟩
theorem soon_three {g : Nat} {h : Int} (hs : Soon (g + 1) h) (hn : ¬ Grow1 h) : Soon g (lcg (lcg (lcg h))) := by
  rcases hs with hs | ⟨m, hm, e⟩
  · exact absurd hs hn
  · match m, hm, e with
    | 0, _, e => exact absurd (.inl e) hn
    | 1, _, e => have e : lcg h = 8 := e; rw [e]; exact .inl (.inr (.inr rfl))
    | 2, _, e => have e : lcg (lcg h) = 8 := e; rw [e]; exact .inl (.inr (.inl rfl))
    | m + 3, hm, e => exact .inr ⟨m, by omega, e⟩
end Go.Proofs.YtcjamnfboifjeaaDoor

/-
  The drawing cursor's bytes, its state told.
-/
namespace Go.Proofs.YtcjamnfboifjeaaDoor
open Go.RowKit
set_option linter.unusedVariables false
set_option linter.unusedSimpArgs false
set_option maxRecDepth 100000

/-- A cursor whose place and state are told. -/
def CurX (w : World) (b : Nat) (A : Option Addr) (cap : Nat) (code : List UInt8) (i : Nat) (h : Int) : Prop :=
  i ≤ code.length ∧ Blk w b 84 #[.slice A code.length cap, .int .i64 i, .int .i64 h] ∧ At1 w b A (code.map bv) ∧ code.length ≤ 1000000000
theorem CurX.cur {w : World} {b : Nat} {A : Option Addr} {cap : Nat} {code : List UInt8} {i : Nat} {h : Int} (hc : CurX w b A cap code i h) : Cur w b A cap code := ⟨⟨i, h, hc.1, hc.2.1⟩, hc.2.2.1, hc.2.2.2⟩
theorem Cur.x {w : World} {b : Nat} {A : Option Addr} {cap : Nat} {code : List UInt8} (hc : Cur w b A cap code) : ∃ i h, CurX w b A cap code i h := by
  obtain ⟨⟨i, h, hi, hB⟩, h2, h3⟩ := hc
  exact ⟨i, h, hi, hB, h2, h3⟩
theorem CurX.below {w w' : World} {b : Nat} {A : Option Addr} {cap : Nat} {code : List UInt8} {i : Nat} {h : Int} (hc : CurX w b A cap code i h) {B : Nat} (hb : Below B w w') (hB : b < B) : CurX w' b A cap code i h :=
  ⟨hc.1, hc.2.1.below hb hB, hc.2.2.1.below hb (Nat.le_of_lt hB), hc.2.2.2⟩
theorem CurX.lt {w : World} {b : Nat} {A : Option Addr} {cap : Nat} {code : List UInt8} {i : Nat} {h : Int} (hc : CurX w b A cap code i h) : b < w.heap.size := hc.2.1.lt
/-- What a byte's reading tells: the next place and state; the byte itself where the code's bytes are all read. -/
def NextX (code : List UInt8) (i : Nat) (h : Int) (i' : Nat) (h' : Int) (r : Nat) : Prop := r < 256 ∧ h' = lcg h ∧ ((i < code.length ∧ i' = i + 1) ∨ (i = code.length ∧ i' = i ∧ r = lcgOut h'))

theorem out_eq (H : Int) : lcgOut H = (bits .xor .i64 (H / 8589934592) (H / 35184372088832) % 256).toNat := rfl
set_option maxHeartbeats 2000000 in
theorem dByteX (b : Nat) (A : Option Addr) (cap : Nat) (code : List UInt8) (i : Nat) (h : Int) (w : World) (hc : CurX w b A cap code i h) :
    Calls Tryd.prog 91 #[.pointer (some ⟨b, 0, none⟩)] w fun e w' => ∃ r i' h', e = .returned (.int .i64 (r : Nat)) ∧ NextX code i h i' h' r ∧ CurX w' b A cap code i' h' ∧ Gr b w w' := by
  obtain ⟨hi, hB, hat, hn⟩ := hc
  have d2 : w.cell? ⟨b, 2, none⟩ = some (.int .i64 h) := hB.cell 2
  have k2 := hB.soft 2
  have HB := Lib.hid hB
  have HA := Lib.hid hat
  have HLC : Hid (wrap64 (wrap64 (h * 6364136223846793005) + 1442695040888963407) = lcg h) := Lib.hid rfl
  clear hB hat
  go_enter Tryd.func91, Tryd.ntmps91
  go_wp2_with fail
  rw [HLC.out]
  have HH : Hid (∃ H, lcg h = H) := Lib.hid ⟨_, rfl⟩
  obtain ⟨H, hH⟩ := HH.out
  rw [hH]
  have HHE := Lib.hid hH
  clear hH HH
  have hB1 : Blk (w.setCell ⟨b, 2, none⟩ (.int .i64 H)) b 84 #[.slice A code.length cap, .int .i64 i, .int .i64 H] := HB.out.set 2 (.int .i64 H)
  have hg1 : Gr b w (w.setCell ⟨b, 2, none⟩ (.int .i64 H)) := Gr.set b w 2 _
  generalize w.setCell ⟨b, 2, none⟩ (.int .i64 H) = w1 at hB1 hg1 ⊢
  have HB1 := Lib.hid hB1
  have HG1 := Lib.hid hg1
  have e0 : w1.cell? ⟨b, 0, none⟩ = some (.slice A code.length cap) := hB1.cell 0
  have e1 : w1.cell? ⟨b, 1, none⟩ = some (.int .i64 i) := hB1.cell 1
  have e2 : w1.cell? ⟨b, 2, none⟩ = some (.int .i64 H) := hB1.cell 2
  clear d2 k2 hB1 hg1
  go_quiet (fail)
  rw [and255]
  have hX : (bits .xor .i64 (H / 8589934592) (H / 35184372088832) % 256).toNat < 256 := by omega
  have HXO : Hid (lcgOut H = (bits .xor .i64 (H / 8589934592) (H / 35184372088832) % 256).toNat) := Lib.hid (out_eq H)
  generalize (bits .xor .i64 (H / 8589934592) (H / 35184372088832) % 256).toNat = X at hX HXO ⊢
  have hg2 := HG1.out.drewN nq
  have hB2 : Blk (w1.drewN nq) b 84 #[.slice A code.length cap, .int .i64 i, .int .i64 H] := HB1.out
  generalize w1.drewN nq = w2 at hg2 hB2 ⊢
  have f0 : w2.cell? ⟨b, 0, none⟩ = some (.slice A code.length cap) := hB2.cell 0
  have f1 : w2.cell? ⟨b, 1, none⟩ = some (.int .i64 i) := hB2.cell 1
  have HB2 := Lib.hid hB2
  have HG2 := Lib.hid hg2
  clear e0 e1 e2 hB2 hg2
  by_cases hlt : i < code.length
  · obtain ⟨g, off, rfl, hgb, hcell⟩ := (HA.out.grown HG2.out).get (j := i) (by simpa using hlt)
    rw [List.getElem_map] at hcell
    unfold bv at hcell
    go_wp2_with fail
    go_quiet (fail)
    have hg3 := HG2.out.drewN nq
    have hB3 : Blk (w2.drewN nq) b 84 #[.slice (some ⟨g, off, none⟩) code.length cap, .int .i64 i, .int .i64 H] := HB2.out
    have hcell3 : (w2.drewN nq).cell? ⟨g, off + i, none⟩ = some (.int .u8 ((code[i]).toNat : Int)) := hcell
    generalize w2.drewN nq = w3 at hg3 hB3 hcell3 ⊢
    have e0 : w3.cell? ⟨b, 0, none⟩ = some (.slice (some ⟨g, off, none⟩) code.length cap) := hB3.cell 0
    have e1 : w3.cell? ⟨b, 1, none⟩ = some (.int .i64 i) := hB3.cell 1
    have hu : (code[i]).toNat < 256 := UInt8.toNat_lt _
    have HB3 := Lib.hid hB3
    have HG3 := Lib.hid hg3
    clear f0 f1 hcell hB3 hg3
    go_wp2_with fail
    go_quiet (fail)
    rw [and255]
    have hY : ((((X : Nat) : Int) + ((code[i]).toNat : Int)) % 256).toNat < 256 := by omega
    generalize ((((X : Nat) : Int) + ((code[i]).toNat : Int)) % 256).toNat = Y at hY ⊢
    have hg4 := HG3.out.drewN nq
    have hB4 : Blk (w3.drewN nq) b 84 #[.slice (some ⟨g, off, none⟩) code.length cap, .int .i64 i, .int .i64 H] := HB3.out
    generalize w3.drewN nq = w4 at hg4 hB4 ⊢
    have f1 : w4.cell? ⟨b, 1, none⟩ = some (.int .i64 i) := hB4.cell 1
    have k1 := hB4.soft 1
    have HB4 := Lib.hid hB4
    have HG4 := Lib.hid hg4
    clear e0 e1 hB4 hg4 hcell3
    go_wp2_with fail
    go_ret
    have hgN : Gr b w (w4.setCell ⟨b, 1, none⟩ (.int .i64 ((i + 1 : Nat) : Int))) := HG4.out.trans (Gr.set b w4 1 _)
    exact ⟨Y, i + 1, H, rfl, ⟨hY, HHE.out.symm, .inl ⟨hlt, rfl⟩⟩, ⟨hlt, HB4.out.set 1 (.int .i64 ((i + 1 : Nat) : Int)), HA.out.grown hgN, hn⟩, hgN⟩
  · go_wp2_with fail
    go_quiet (fail)
    go_wp2_with fail
    go_ret
    exact ⟨X, i, H, rfl, ⟨hX, HHE.out.symm, .inr ⟨by omega, rfl, HXO.out.symm⟩⟩, ⟨hi, HB2.out, HA.out.grown (HG2.out.drewN _), hn⟩, HG2.out.drewN _⟩

set_option maxHeartbeats 2000000 in
theorem dBelowX (n : Nat) (b : Nat) (A : Option Addr) (cap : Nat) (code : List UInt8) (i : Nat) (h : Int) (w : World) (h0 : 0 < n) (hn : n ≤ 256) (hc : CurX w b A cap code i h) :
    Calls Tryd.prog 68 #[.pointer (some ⟨b, 0, none⟩), .int .i64 n] w fun e w' => ∃ r i' h', e = .returned (.int .i64 ((r % n : Nat) : Int)) ∧ NextX code i h i' h' r ∧ CurX w' b A cap code i' h' ∧ Gr b w w' := by
  have HC := Lib.hid hc
  clear hc
  have hn0 : ¬ (n : Int) = 0 := by omega
  go_enter Tryd.func68, Tryd.ntmps68
  go_wp2_with fail
  refine (dByteX b A cap code i h w HC.out).mono ?_
  rintro e w1 ⟨r, i', h', rfl, hnx, hc1, hg⟩
  go_wp2_with fail
  go_ret
  exact ⟨r, i', h', ret_eq (congrArg (Value.int .i64) (by simp)), hnx, hc1, hg⟩
end Go.Proofs.YtcjamnfboifjeaaDoor

/-
  The drawing cursor: a text of a given length; it comes to an end, for whatever state, a state comes from which it grows.
-/
namespace Go.Proofs.YtcjamnfboifjeaaDoor
open Go.RowKit
set_option linter.unusedVariables false
set_option linter.unusedSimpArgs false
set_option maxRecDepth 100000

/-- How many rounds may still go by before the text grows. -/
def Wait (L i : Nat) (h : Int) (g : Nat) : Prop := (i < L ∧ L - i + 18446744073709551618 ≤ g) ∨ (i = L ∧ ∃ q, Soon q h ∧ q + 1 ≤ g)
theorem wait_any (L i : Nat) (h : Int) (hi : i ≤ L) : Wait L i h (L + 18446744073709551618) := by
  rcases Nat.lt_or_ge i L with h1 | h1
  · exact .inl ⟨h1, by omega⟩
  · exact .inr ⟨by omega, 18446744073709551617, soon_any h, by omega⟩
theorem wait_pos {L i : Nat} {h : Int} {g : Nat} (hw : Wait L i h g) : 0 < g := by
  rcases hw with ⟨_, h⟩ | ⟨_, q, _, h⟩ <;> omega
/-- Behind one byte, or three, without growth. -/
theorem wait_one {code : List UInt8} {i i1 : Nat} {h h1 : Int} {g r1 : Nat} (hw : Wait code.length i h (g + 1)) (n1 : NextX code i h i1 h1 r1) (hr : r1 % 5 = 1 ∨ r1 % 5 = 2) : Wait code.length i1 h1 g := by
  obtain ⟨_, e1, hc⟩ := n1
  subst e1
  rcases hw with ⟨hlt, hg⟩ | ⟨hi, q, hs, hq⟩
  · rcases hc with ⟨_, e⟩ | ⟨e, _⟩
    · subst e
      rcases Nat.lt_or_ge (i + 1) code.length with h2 | h2
      · exact .inl ⟨h2, by omega⟩
      · exact .inr ⟨by omega, 18446744073709551617, soon_any _, by omega⟩
    · omega
  · rcases hc with ⟨e, _⟩ | ⟨_, e, er⟩
    · omega
    · subst e
      have hng : ¬ Grow1 h := fun hgr => by
        have := grow1_out hgr
        rw [← er] at this
        omega
      cases q with
      | zero => exact absurd (soon_zero hs) hng
      | succ q => exact .inr ⟨hi, q, soon_one hs hng, by omega⟩
theorem wait_three {code : List UInt8} {i i1 i2 i3 : Nat} {h h1 h2 h3 : Int} {g r1 r2 r3 : Nat} (hw : Wait code.length i h (g + 1)) (n1 : NextX code i h i1 h1 r1) (n2 : NextX code i1 h1 i2 h2 r2) (n3 : NextX code i2 h2 i3 h3 r3) (hr : r1 % 5 = 1 ∨ r1 % 5 = 2) : Wait code.length i3 h3 g := by
  obtain ⟨_, e1, hc1⟩ := n1
  obtain ⟨_, e2, hc2⟩ := n2
  obtain ⟨_, e3, hc3⟩ := n3
  subst e1 e2 e3
  rcases hw with ⟨hlt, hg⟩ | ⟨hi, q, hs, hq⟩
  · have hi3 : i3 ≤ code.length ∧ i < i3 := by omega
    rcases Nat.lt_or_ge i3 code.length with h2 | h2
    · exact .inl ⟨h2, by omega⟩
    · exact .inr ⟨by omega, 18446744073709551617, soon_any _, by omega⟩
  · have hi1 : i1 = code.length := by omega
    have hi2 : i2 = code.length := by omega
    have hi3 : i3 = code.length := by omega
    have hng : ¬ Grow1 h := fun hgr => by
      have h5 := grow1_out hgr
      rcases hc1 with ⟨e, _⟩ | ⟨_, _, er⟩
      · omega
      · rw [← er] at h5
        omega
    cases q with
    | zero => exact absurd (soon_zero hs) hng
    | succ q => exact .inr ⟨hi3, q, soon_three hs hng, by omega⟩
/-- The ghost of the loop: bytes that are still wanted, and rounds that may go by ahead of the next. -/
def Pot (M L n len i : Nat) (h : Int) (G : Nat) : Prop := ∃ g, Wait L i h g ∧ (n - len) * M + g ≤ G
theorem pot_any (M L n i : Nat) (h : Int) (hi : i ≤ L) : ∃ G, Pot M L n 0 i h G := ⟨_, _, wait_any L i h hi, Nat.le_refl _⟩
theorem pot_arith (M x y g G w : Nat) (h1 : x + M ≤ y) (hw : w < M) (hG : y + g ≤ G) (hpos : 0 < g) : x + w ≤ G - 1 ∧ G = G - 1 + 1 := by omega
theorem pot_grow {M L n len len' i i' : Nat} {h h' : Int} {G : Nat} (hM : L + 18446744073709551618 < M) (hp : Pot M L n len i h G) (hi : i' ≤ L) (hl : len < len') (hn : len < n) : ∃ G', G = G' + 1 ∧ Pot M L n len' i' h' G' := by
  obtain ⟨g, hw, hG⟩ := hp
  have hpos := wait_pos hw
  have h1 : (n - len') * M + M ≤ (n - len) * M := by
    rw [← Nat.succ_mul]
    exact Nat.mul_le_mul_right _ (by omega)
  have h2 := pot_arith M _ _ g G _ h1 hM hG hpos
  exact ⟨G - 1, h2.2, _, wait_any L i' h' hi, h2.1⟩
theorem pot_step {M L n len : Nat} {i : Nat} {h : Int} {G : Nat} (hp : Pot M L n len i h G) : ∃ G' g, G = G' + 1 ∧ Wait L i h (g + 1) ∧ (∀ i' h', Wait L i' h' g → Pot M L n len i' h' G') := by
  obtain ⟨g, hw, hG⟩ := hp
  have hpos := wait_pos hw
  obtain ⟨g, rfl⟩ : ∃ k, g = k + 1 := ⟨g - 1, by omega⟩
  exact ⟨G - 1, g, by omega, hw, fun i' h' hw' => ⟨g, hw', by omega⟩⟩
end Go.Proofs.YtcjamnfboifjeaaDoor

/-
  A text made of bytes that are written out.
-/
namespace Go.Proofs.YtcjamnfboifjeaaDoor
open Go.RowKit
set_option linter.unusedVariables false

/-- A number as a byte. -/
def byteI (x : Int) : UInt8 := UInt8.ofNat x.toNat
/-- 'string([]byte{..})' -/
theorem run_string_lit {P : Program} (src dst e : TypeId) (hs : P.underlying src = some (.slice e)) (he : P.underlying e = some (.int .u8)) (hd : P.underlying dst = some .string) (ns : List Int) (c : Nat) (w : World) :
    (convert src dst (.slice (some ⟨w.heap.size, 0, none⟩) ns.length c)).run P (w.alloc (.cells (ns.map (Value.int .u8)).toArray e)) = .ok (.string (str (ns.map fun n => UInt8.ofNat n.toNat))) (w.alloc (.cells (ns.map (Value.int .u8)).toArray e)) := by
  rw [run_convert_bytes_string _ src dst e _ _ _ hs he hd]
  have hl := run_loadCells_list (P := P) (w.alloc (.cells (ns.map (Value.int .u8)).toArray e)) ⟨w.heap.size, 0, none⟩ (ns.map (Value.int .u8)) (fun j v hj => by
    have := cells_new w (ns.map (Value.int .u8)).toArray e j v (by simpa using hj)
    simpa using this)
  simp only [List.length_map] at hl
  rw [run_bytesToString _ _ _ c ns hl]
  congr 2
  have hf : ∀ (l : List Int) (r : ByteArray), l.foldl (fun r n => r.push (UInt8.ofNat n.toNat)) r = ⟨r.data ++ (l.map fun n => UInt8.ofNat n.toNat).toArray⟩ := by
    intro l
    induction l with
    | nil => intro r; simp
    | cons n l ih => intro r; rw [List.foldl_cons, ih]; simp [ByteArray.push]
  rw [hf]
  simp [str]
theorem lit1 {P : Program} (src dst e : TypeId) (hs : P.underlying src = some (.slice e)) (he : P.underlying e = some (.int .u8)) (hd : P.underlying dst = some .string) : ∀ (w : World) (a : Int),
    (convert src dst (.slice (some ⟨w.heap.size, 0, none⟩) 1 1)).run P (w.alloc (.cells #[.int .u8 a] e)) = .ok (.string (str [byteI a])) (w.alloc (.cells #[.int .u8 a] e)) := fun w a => run_string_lit src dst e hs he hd [a] 1 w
theorem lit2 {P : Program} (src dst e : TypeId) (hs : P.underlying src = some (.slice e)) (he : P.underlying e = some (.int .u8)) (hd : P.underlying dst = some .string) : ∀ (w : World) (a b : Int),
    (convert src dst (.slice (some ⟨w.heap.size, 0, none⟩) 2 2)).run P (w.alloc (.cells #[.int .u8 a, .int .u8 b] e)) = .ok (.string (str [byteI a, byteI b])) (w.alloc (.cells #[.int .u8 a, .int .u8 b] e)) := fun w a b => run_string_lit src dst e hs he hd [a, b] 2 w
theorem lit3 {P : Program} (src dst e : TypeId) (hs : P.underlying src = some (.slice e)) (he : P.underlying e = some (.int .u8)) (hd : P.underlying dst = some .string) : ∀ (w : World) (a b c : Int),
    (convert src dst (.slice (some ⟨w.heap.size, 0, none⟩) 3 3)).run P (w.alloc (.cells #[.int .u8 a, .int .u8 b, .int .u8 c] e)) = .ok (.string (str [byteI a, byteI b, byteI c])) (w.alloc (.cells #[.int .u8 a, .int .u8 b, .int .u8 c] e)) := fun w a b c => run_string_lit src dst e hs he hd [a, b, c] 3 w
theorem lit4 {P : Program} (src dst e : TypeId) (hs : P.underlying src = some (.slice e)) (he : P.underlying e = some (.int .u8)) (hd : P.underlying dst = some .string) : ∀ (w : World) (a b c d : Int),
    (convert src dst (.slice (some ⟨w.heap.size, 0, none⟩) 4 4)).run P (w.alloc (.cells #[.int .u8 a, .int .u8 b, .int .u8 c, .int .u8 d] e)) = .ok (.string (str [byteI a, byteI b, byteI c, byteI d])) (w.alloc (.cells #[.int .u8 a, .int .u8 b, .int .u8 c, .int .u8 d] e)) := fun w a b c d => run_string_lit src dst e hs he hd [a, b, c, d] 4 w
theorem str_len (l : List UInt8) : (str l).size = l.length := by simp [str, ByteArray.size]
end Go.Proofs.YtcjamnfboifjeaaDoor

/-
  The drawing cursor: a text of a given length.
-/
namespace Go.Proofs.YtcjamnfboifjeaaDoor
open Go.RowKit
set_option linter.unusedVariables false
set_option linter.unusedSimpArgs false
set_option maxRecDepth 100000

theorem Gr.over {b B : Nat} {a w w' : World} (h : Gr b a w) (hb : Below B w w') (hB : a.heap.size ≤ B) : Gr b a w' :=
  ⟨hb.os.trans h.os, hb.tape.trans h.tape, hb.output.trans h.output, Nat.le_trans h.size hb.size, fun k hk hne => (hb.block k (Nat.lt_of_lt_of_le hk hB)).trans (h.block k hk hne)⟩
theorem own_gr {w w' : World} {base e size n b : Nat} {v : Value} {xs : List Value} (h : w.ownsRow base e size v n xs) (hg : Gr b w w') (hb : b < base) : w'.ownsRow base e size v n xs := by
  refine ⟨h.1, ?_⟩
  rcases h.2 with h' | ⟨g, c, cur, rfl, h1, h2, h3⟩
  · exact .inl h'
  · refine .inr ⟨g, c, cur, rfl, h1, (hg.block g (h.lt g rfl).2 ?_).trans h2, h3⟩
    intro e
    injection e with e
    have := (h.lt g rfl).1
    omega
/-- The text's bytes so far: a row of their own above the start; the cursor's state. -/
def TxtAt (w0 : World) (b : Nat) (A : Option Addr) (cap : Nat) (code : List UInt8) (i : Nat) (h : Int) (l : List UInt8) (o : Value) (w : World) : Prop :=
  w.ownsRow w0.heap.size 5 1 o l.length (l.map bv) ∧ CurX w b A cap code i h ∧ Gr b w0 w
/-- Behind an append. -/
theorem txt_app {w0 wr w' : World} {b : Nat} {A : Option Addr} {cap : Nat} {code : List UInt8} {i : Nat} {h : Int} {l : List UInt8} {o v' : Value} {x : Int} (ht : TxtAt w0 b A cap code i h l o wr) (hb : b < w0.heap.size) (hx : 0 ≤ x ∧ x < 256)
    (hown : w'.ownsRow w0.heap.size 5 1 v' (l.length + 1) (l.map bv ++ [.int .u8 x])) (hbl : Below w0.heap.size wr w') : ∃ y, TxtAt w0 b A cap code i h (l ++ [y]) v' w' := by
  refine ⟨UInt8.ofNat x.toNat, ?_, ht.2.1.below hbl hb, ht.2.2.over hbl (Nat.le_refl _)⟩
  have e : Value.int .u8 x = bv (UInt8.ofNat x.toNat) := by
    unfold bv
    congr 1
    rw [UInt8.toNat_ofNat']
    omega
  rw [e] at hown
  simpa using hown
theorem txt_gr {w0 wr w' : World} {b : Nat} {A : Option Addr} {cap : Nat} {code : List UInt8} {i i' : Nat} {h h' : Int} {l : List UInt8} {o : Value} (ht : TxtAt w0 b A cap code i h l o wr) (hb : b < w0.heap.size) (hc : CurX w' b A cap code i' h') (hg : Gr b wr w') : TxtAt w0 b A cap code i' h' l o w' :=
  ⟨own_gr ht.1 hg hb, hc, ht.2.2.trans hg⟩
theorem row_some {w : World} {base : Nat} {e : TypeId} {o : Value} {n : Nat} {xs : List Value} (h : w.ownsRow base e 1 o n xs) : ∃ A c, o = .slice A n c ∧ (0 < n → ∃ g, A = some ⟨g, 0, none⟩) := by
  rcases h.2 with ⟨rfl, rfl⟩ | ⟨g, c, cur, rfl, _⟩
  · exact ⟨none, 0, rfl, fun h => absurd h (by omega)⟩
  · exact ⟨_, _, rfl, fun _ => ⟨g, rfl⟩⟩
/-- The first bytes of a row as a text. -/
theorem run_prefix {w : World} {base g c n : Nat} {l : List UInt8} (h : w.ownsRow base 5 1 (.slice (some ⟨g, 0, none⟩) l.length c) l.length (l.map bv)) (hn : n ≤ l.length) :
    (convert 34 9 (.slice (some ⟨g, 0, none⟩) n c)).run Tryd.prog w = .ok (.string (str (l.take n))) w := by
  have hl : (l.take n).length = n := by rw [List.length_take]; omega
  have hh := run_convert_bytes_back (P := Tryd.prog) w 34 9 5 ⟨g, 0, none⟩ c (l.take n) Tryd.underlying34 Tryd.underlying5 Tryd.underlying9 (fun j hj => by
    rw [hl] at hj
    have hc := h.cellAt j (by omega)
    rw [Addr.add_lit]
    show w.cell? ⟨g, 0 + j, none⟩ = _
    rw [Nat.zero_add, hc, List.getElem?_map, List.getElem?_eq_getElem (by omega)]
    simp [bv])
  rw [hl] at hh
  exact hh

set_option maxHeartbeats 4000000 in
theorem dText (n : Nat) (b : Nat) (A : Option Addr) (cap : Nat) (code : List UInt8) (w : World) (hn : n ≤ 100) (hc : Cur w b A cap code) :
    Calls Tryd.prog 93 #[.pointer (some ⟨b, 0, none⟩), .int .i64 n] w fun e w' => (∃ s : ByteArray, s.size = n ∧ e = .returned (.string s)) ∧ Drawn w b A cap code w' := by
  obtain ⟨i0, h0, hx⟩ := hc.x
  have hbw : b < w.heap.size := hc.lt
  have hic : i0 ≤ code.length := hx.1
  obtain ⟨G0, hG0⟩ := pot_any (code.length + 18446744073709551619) code.length n i0 h0 hic
  have HPOT := Lib.hid hG0
  have HX := Lib.hid hx
  have HMM : Hid (code.length + 18446744073709551618 < code.length + 18446744073709551619) := Lib.hid (by omega)
  generalize hM : code.length + 18446744073709551619 = M at HPOT HMM
  clear hM hG0 hx hc
  go_enter Tryd.func93, Tryd.ntmps93
  go_wp2_with fail
  go_loopg [5] G0 (fun gk o wx => ∃ (l : List UInt8) (i : Nat) (h : Int), l.length ≤ n + 30 ∧ (∃ g c, o = .slice (some ⟨g, 0, none⟩) l.length c) ∧ Hid (TxtAt w b A cap code i h l o wx ∧ Pot M code.length n l.length i h gk))
  case atStart => exact ⟨[], i0, h0, by simp, ⟨_, _, rfl⟩, Lib.hid ⟨⟨own_empty w _ _, HX.out.below ((Below.refl _ _).alloc (Nat.le_refl _) _) hbw, (Gr.refl _ _).alloc _⟩, HPOT.out⟩⟩
  case round =>
    obtain ⟨l, i, h, hln, ⟨g, c, rfl⟩, HT⟩ := hrel
    by_cases hlt : l.length < n
    · have HC1 := Lib.hid (dBelowX 5 b A cap code i h wr (by omega) (by omega) HT.out.1.2.1)
      go_wp2_with fail
      refine HC1.out.mono ?_
      rintro e w1 ⟨r1, i1, h1, rfl, hn1, hc1, hg1⟩
      have T1 := Lib.hid (txt_gr HT.out.1 hbw hc1 hg1)
      have N1 := Lib.hid hn1
      clear hn1 hc1 hg1 HC1
      by_cases k0 : r1 % 5 = 0
      · have HC2 := Lib.hid (dByteX b A cap code i1 h1 w1 T1.out.2.1)
        rw [k0]
        go_wp2_with fail
        refine HC2.out.mono ?_
        rintro e w2 ⟨r2, i2, h2, rfl, hn2, hc2, hg2⟩
        have hr2 := hn2.1
        have T2 := Lib.hid (txt_gr T1.out hbw hc2 hg2)
        have hown := T2.out.1
        have hB := T2.out.2.2.size
        have hi2 := hc2.1
        clear hn2 hc2 hg2 HC2
        go_wp2_with (at_builtin; refine wpList_app rfl (.tmp 28) (.tmp 32) 34 rfl w.heap.size 5 Tryd.underlying34 infoU8 rfl (by decide) (W := w2) rfl (hown.alloc _) ((Below.refl _ _).alloc hB _) (Nat.le_trans hB (by simp)) _ 1 1 _ rfl rfl (cells_new _ _ _) (one_u8 _) (by unfold maxLen; omega) (by omega) ?_; intro v' w' hown' hb' hB')
        obtain ⟨y, hT⟩ := txt_app T2.out hbw (by omega) hown' hb'
        obtain ⟨A', c', rfl, hA'⟩ := row_some hown'
        obtain ⟨g', rfl⟩ := hA' (by omega)
        obtain ⟨G', hG, hP⟩ := pot_grow (len' := (l ++ [y]).length) (i' := i2) (h' := h2) HMM.out HT.out.2 hi2 (by simp) hlt
        go_roundg G'
        case measure => omega
        case rel => exact ⟨l ++ [y], i2, h2, by simp; omega, ⟨g', c', by simp⟩, Lib.hid ⟨hT, hP⟩⟩
      · have k0i : ¬ ((r1 % 5 : Nat) : Int) = 0 := by omega
        by_cases k1 : r1 % 5 = 1
        · have HC2 := Lib.hid (dBelowX 9 b A cap code i1 h1 w1 (by omega) (by omega) T1.out.2.1)
          rw [k1]
          go_wp2_with fail
          refine HC2.out.mono ?_
          rintro e w2 ⟨r2, i2, h2, rfl, hn2, hc2, hg2⟩
          have T2 := Lib.hid (txt_gr T1.out hbw hc2 hg2)
          have N2 := Lib.hid hn2
          have hk2 : r2 % 9 < 9 := Nat.mod_lt _ (by omega)
          generalize r2 % 9 = k2 at *
          clear hn2 hc2 hg2 HC2
          have HC3 := Lib.hid (dBelowX 4 b A cap code i2 h2 w2 (by omega) (by omega) T2.out.2.1)
          go_wp2_with fail
          refine HC3.out.mono ?_
          rintro e w3 ⟨r3, i3, h3, rfl, hn3, hc3, hg3⟩
          have T3 := Lib.hid (txt_gr T2.out hbw hc3 hg3)
          have N3 := Lib.hid hn3
          have hi3 := hc3.1
          have hk3 : r3 % 4 < 4 := Nat.mod_lt _ (by omega)
          generalize r3 % 4 = k3 at *
          clear hn3 hc3 hg3 HC3
          have hx : 0 ≤ (97 : Int) + (k3 : Int) ∧ (97 : Int) + (k3 : Int) < 256 := by omega
          go_wp2_with fail
          go_loopw [5, 8] (fun o x wr => ∃ (m : Nat) (l' : List UInt8), m ≤ k2 ∧ l'.length = l.length + m ∧ (m = 0 → l' = l) ∧ (∃ g c, o = .slice (some ⟨g, 0, none⟩) l'.length c) ∧ x = .int .i64 m ∧ Hid (TxtAt w b A cap code i3 h3 l' o wr)) (fun _ x _ => k2 - (intOf x).toNat)
          case atStart => exact ⟨0, l, Nat.zero_le _, rfl, fun _ => rfl, ⟨_, _, rfl⟩, rfl, T3⟩
          case round =>
            obtain ⟨m, l', hm, hll, hl0, ⟨g', c', rfl⟩, rfl, HTI⟩ := hrel
            by_cases hmk : m < k2
            · have hown := HTI.out.1
              have hB := HTI.out.2.2.size
              go_wp2_with (at_builtin; refine wpList_app rfl (.tmp 47) (.tmp 49) 34 rfl w.heap.size 5 Tryd.underlying34 infoU8 rfl (by decide) (W := wr) rfl (hown.alloc _) ((Below.refl _ _).alloc hB _) (Nat.le_trans hB (by simp)) _ 1 1 _ rfl rfl (cells_new _ _ _) (one_u8 _) (by unfold maxLen; omega) (by omega) ?_; intro v' w' hown' hb' hB')
              obtain ⟨y, hT⟩ := txt_app HTI.out hbw (by omega) hown' hb'
              obtain ⟨A', c2, rfl, hA'⟩ := row_some hown'
              obtain ⟨g2, rfl⟩ := hA' (by omega)
              go_roundw
              case rel => exact ⟨m + 1, l' ++ [y], hmk, by simp; omega, fun h => by omega, ⟨g2, c2, by simp⟩, by go_num, Lib.hid hT⟩
              case measure => simp [intOf]; omega
            · obtain rfl : m = k2 := by omega
              have HW := Lib.hid HT.out.2
              by_cases hz : m = 0
              · have hl' := hl0 hz
                subst hl'
                obtain ⟨G', q, hG, hw, hP⟩ := pot_step HT.out.2
                have hwt := wait_three hw N1.out N2.out N3.out (.inl k1)
                have HTI2 := Lib.hid HTI.out
                clear hl0
                go_wp2_with fail
                go_roundg G'
                case measure => omega
                case rel => exact ⟨l', i3, h3, hln, ⟨g', c', rfl⟩, Lib.hid ⟨HTI2.out, hP _ _ hwt⟩⟩
              · obtain ⟨G', hG, hP⟩ := pot_grow (len' := l'.length) (i' := i3) (h' := h3) HMM.out HT.out.2 hi3 (by omega) hlt
                go_wp2_with fail
                go_roundg G'
                case measure => omega
                case rel => exact ⟨l', i3, h3, by omega, ⟨g', c', rfl⟩, Lib.hid ⟨HTI.out, hP⟩⟩
        · have k1i : ¬ ((r1 % 5 : Nat) : Int) = 1 := by omega
          by_cases k2 : r1 % 5 = 2
          · by_cases hl0 : l.length = 0
            · obtain ⟨G', q, hG, hw, hP⟩ := pot_step HT.out.2
              have hwt := wait_one hw N1.out (.inr k2)
              have hl0i : ¬ ((0 : Int) < (l.length : Int)) := by omega
              clear hl0
              rw [k2]
              go_wp2_with fail
              go_roundg G'
              case measure => omega
              case rel => exact ⟨l, i1, h1, hln, ⟨g, c, rfl⟩, Lib.hid ⟨T1.out, hP _ _ hwt⟩⟩
            · have hl0i : (0 : Int) < (l.length : Int) := by omega
              have HC2 := Lib.hid (dBelowX l.length b A cap code i1 h1 w1 (by omega) (by omega) T1.out.2.1)
              rw [k2]
              go_wp2_with fail
              refine HC2.out.mono ?_
              rintro e w2 ⟨r2, i2, h2, rfl, hn2, hc2, hg2⟩
              have T2 := Lib.hid (txt_gr T1.out hbw hc2 hg2)
              have N2 := Lib.hid hn2
              have hk2 : r2 % l.length < l.length := Nat.mod_lt _ (by omega)
              generalize r2 % l.length = fr at *
              clear hn2 hc2 hg2 HC2
              have HC3 := Lib.hid (dBelowX 20 b A cap code i2 h2 w2 (by omega) (by omega) T2.out.2.1)
              go_wp2_with fail
              refine HC3.out.mono ?_
              rintro e w3 ⟨r3, i3, h3, rfl, hn3, hc3, hg3⟩
              have T3 := Lib.hid (txt_gr T2.out hbw hc3 hg3)
              have N3 := Lib.hid hn3
              have hi3 := hc3.1
              have hk3 : r3 % 20 < 20 := Nat.mod_lt _ (by omega)
              generalize r3 % 20 = k3 at *
              clear hn3 hc3 hg3 HC3
              go_wp2_with fail
              go_loopw [5, 11] (fun o x wr => ∃ (m : Nat) (l' : List UInt8), m ≤ k3 ∧ l'.length = l.length + m ∧ (m = 0 → l' = l) ∧ (∃ g c, o = .slice (some ⟨g, 0, none⟩) l'.length c) ∧ x = .int .i64 m ∧ Hid (TxtAt w b A cap code i3 h3 l' o wr)) (fun _ x _ => k3 - (intOf x).toNat)
              case atStart => exact ⟨0, l, Nat.zero_le _, rfl, fun _ => rfl, ⟨_, _, rfl⟩, rfl, T3⟩
              case round =>
                obtain ⟨m, l', hm, hll, hl1, ⟨g', c', rfl⟩, rfl, HTI⟩ := hrel
                by_cases hmk : m < k3
                · have hown := HTI.out.1
                  have hB := HTI.out.2.2.size
                  have hfl : fr + m < l'.length := by omega
                  have hfi : (fr : Int) + (m : Int) < (l'.length : Int) := by omega
                  have hmki : (m : Int) < (k3 : Int) := by omega
                  have hcell : wr.cell? ⟨g', fr + m, none⟩ = some (.int .u8 ((l'[fr + m]'hfl).toNat : Int)) := by
                    rw [hown.cellAt (fr + m) (by omega), List.getElem?_map, List.getElem?_eq_getElem hfl]
                    rfl
                  have hu8 : (l'[fr + m]'hfl).toNat < 256 := UInt8.toNat_lt _
                  generalize (l'[fr + m]'hfl).toNat = uu at hcell hu8
                  go_wp2_with (at_builtin; refine wpList_app rfl (.tmp 75) (.tmp 82) 34 rfl w.heap.size 5 Tryd.underlying34 infoU8 rfl (by decide) (W := wr) rfl (hown.alloc _) ((Below.refl _ _).alloc hB _) (Nat.le_trans hB (by simp)) _ 1 1 _ rfl rfl (cells_new _ _ _) (one_u8 _) (by unfold maxLen; omega) (by omega) ?_; intro v' w' hown' hb' hB')
                  obtain ⟨y, hT⟩ := txt_app HTI.out hbw (by omega) hown' hb'
                  obtain ⟨A', c2, rfl, hA'⟩ := row_some hown'
                  obtain ⟨g2, rfl⟩ := hA' (by omega)
                  go_roundw
                  case rel => exact ⟨m + 1, l' ++ [y], hmk, by simp; omega, fun h => by omega, ⟨g2, c2, by simp⟩, by go_num, Lib.hid hT⟩
                  case measure => simp [intOf]; omega
                · obtain rfl : m = k3 := by omega
                  by_cases hz : m = 0
                  · have hl' := hl1 hz
                    subst hl'
                    obtain ⟨G', q, hG, hw, hP⟩ := pot_step HT.out.2
                    have hwt := wait_three hw N1.out N2.out N3.out (.inr k2)
                    have HTI2 := Lib.hid HTI.out
                    clear hl1
                    go_wp2_with fail
                    go_roundg G'
                    case measure => omega
                    case rel => exact ⟨l', i3, h3, hln, ⟨g', c', rfl⟩, Lib.hid ⟨HTI2.out, hP _ _ hwt⟩⟩
                  · obtain ⟨G', hG, hP⟩ := pot_grow (len' := l'.length) (i' := i3) (h' := h3) HMM.out HT.out.2 hi3 (by omega) hlt
                    go_wp2_with fail
                    go_roundg G'
                    case measure => omega
                    case rel => exact ⟨l', i3, h3, by omega, ⟨g', c', rfl⟩, Lib.hid ⟨HTI.out, hP⟩⟩
          · have k2i : ¬ ((r1 % 5 : Nat) : Int) = 2 := by omega
            have HC2 := Lib.hid (dBelowX 26 b A cap code i1 h1 w1 (by omega) (by omega) T1.out.2.1)
            go_wp2_with fail
            refine HC2.out.mono ?_
            rintro e w2 ⟨r2, i2, h2, rfl, hn2, hc2, hg2⟩
            have hk3 : r2 % 26 < 26 := Nat.mod_lt _ (by omega)
            have T2 := Lib.hid (txt_gr T1.out hbw hc2 hg2)
            have hown := T2.out.1
            have hB := T2.out.2.2.size
            have hi2 := hc2.1
            generalize r2 % 26 = k3 at *
            have hx : 0 ≤ (97 : Int) + (k3 : Int) ∧ (97 : Int) + (k3 : Int) < 256 := by omega
            clear hn2 hc2 hg2 HC2
            go_wp2_with (at_builtin; refine wpList_app rfl (.tmp 19) (.tmp 24) 34 rfl w.heap.size 5 Tryd.underlying34 infoU8 rfl (by decide) (W := w2) rfl (hown.alloc _) ((Below.refl _ _).alloc hB _) (Nat.le_trans hB (by simp)) _ 1 1 _ rfl rfl (cells_new _ _ _) (one_u8 _) (by unfold maxLen; omega) (by omega) ?_; intro v' w' hown' hb' hB')
            obtain ⟨y, hT⟩ := txt_app T2.out hbw (by omega) hown' hb'
            obtain ⟨A', c', rfl, hA'⟩ := row_some hown'
            obtain ⟨g', rfl⟩ := hA' (by omega)
            obtain ⟨G', hG, hP⟩ := pot_grow (len' := (l ++ [y]).length) (i' := i2) (h' := h2) HMM.out HT.out.2 hi2 (by simp) hlt
            go_roundg G'
            case measure => omega
            case rel => exact ⟨l ++ [y], i2, h2, by simp; omega, ⟨g', c', by simp⟩, Lib.hid ⟨hT, hP⟩⟩
    · have hcv := run_prefix (n := n) HT.out.1.1 (by omega)
      have hnl : ¬ (l.length : Int) < (n : Int) := by omega
      have hc1 : l.length ≤ c := by
        have := HT.out.1.1
        rcases this.2 with ⟨h1, _⟩ | ⟨g1, c1, cur, h1, h2, h3, h4, _⟩
        · cases h1
        · cases h1
          exact h4
      go_wp2_with fail
      go_ret
      exact ⟨⟨_, by rw [str_len, List.length_take]; omega, rfl⟩, HT.out.1.2.1.cur, HT.out.1.2.2⟩
end Go.Proofs.YtcjamnfboifjeaaDoor
