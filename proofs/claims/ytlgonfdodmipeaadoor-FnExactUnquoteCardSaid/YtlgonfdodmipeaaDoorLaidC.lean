/-
  The library's table of cases, as a row lists it, lies as the contracts ask.
-/
import Derived.Test.YtlgonfdodmipeaaDoorUnqK
import Derived.Test.YtlgonfdodmipeaaDoorLaid
import Derived.PinnedBridge
import Derived.Lib.LaidCase
namespace Go.Proofs.YtlgonfdodmipeaaDoor
open Go.RowKit Go.Shelf Go.Lib

theorem casD : Rows.laid_unicode_CaseRanges = Lib.caseData := Pinned.caseRanges_eq
theorem extraCase : CaseExtra Tryd.prog Tryd.lays159_ren := ⟨by kernel_rfl, by kernel_rfl, by kernel_rfl, by kernel_rfl, by kernel_rfl, by kernel_rfl⟩
theorem caseTab_of_laid {l : List (String × DataW Unit)} {W : World} (h : laidMet Tryd.prog l W) (hc : ("unicode.CaseRanges", Rows.laid_unicode_CaseRanges) ∈ l) : CaseTab W :=
  caseVar_of_reads (ρ := Tryd.lays159_ren) { Tryd.lays159 with } (by kernel_rfl) extraCase (casD ▸ Lib.laidMet.reads h hc)
end Go.Proofs.YtlgonfdodmipeaaDoor
