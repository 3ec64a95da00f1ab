/-
  The library's listed tables, as a row lists them, lie as the contracts ask.
-/
import Derived.Test.YtlgonfdodmipeaaDoorGetSignI
import Derived.PinnedBridge
import Derived.Lib.LaidU8
namespace Go.Proofs.YtlgonfdodmipeaaDoor
open Go.RowKit Go.Shelf Go.Lib

theorem accD : (Rows.laid_unicode_utf8_acceptRanges : DataW Unit) = Lib.acceptData := by kernel_rfl
theorem fstD : Rows.laid_unicode_utf8_first = Lib.firstData := Pinned.utf8First_eq
theorem extraU8 : U8Extra Tryd.prog Tryd.lays260_ren := ⟨by kernel_rfl, by kernel_rfl, by kernel_rfl, by kernel_rfl, by kernel_rfl, by kernel_rfl, by kernel_rfl⟩
theorem tabs_of_laid {l : List (String × DataW Unit)} {W : World} (h : laidMet Tryd.prog l W) (ha : ("unicode/utf8.acceptRanges", Rows.laid_unicode_utf8_acceptRanges) ∈ l) (hf : ("unicode/utf8.first", Rows.laid_unicode_utf8_first) ∈ l) : Tabs W :=
  utf8Tabs_of_reads Tryd.lays260 extraU8 (fstD ▸ Lib.laidMet.reads h hf) (accD ▸ Lib.laidMet.reads h ha)
end Go.Proofs.YtlgonfdodmipeaaDoor
