/- What the row's list gives: the table's cells hold its numbers. -/
import Derived.Test.YtieipnnpkngegaaDoorRows
import Derived.Test.YtieipnnpkngegaaDoorSc
import Derived.Lib.LaidTab
namespace Go.Proofs.YtieipnnpkngegaaDoor
open Go.RowKit
theorem gTab : Tryd.prog.globalNamed "longwire/scribe.table" = some 1 := by kernel_rfl
theorem gTabType : (Tryd.prog.globals[1]?).map (·.type) = some 114 := by kernel_rfl
theorem cells114 : Tryd.prog.cellsOf 114 = 16 := by kernel_rfl
theorem cells23 : Tryd.prog.cellsOf 23 = 1 := by kernel_rfl
theorem tabb_of_laid {W : World} {rest : List (String × DataW Unit)} (h : laidMet Tryd.prog (("longwire/scribe.table", Rows.laid_longwire_scribe_table) :: rest) W) : Tabb W := by
  have ht : Lib.TabIs Tryd.prog W "longwire/scribe.table" .u32 [0, 498536548, 997073096, 651767980, 1994146192, 1802195444, 1303535960, 1342533948, 3988292384, 4027552580, 3604390888, 3412177804, 2607071920, 2262029012, 2685067896, 3183342108] :=
    Lib.tabIs_of_head (rest := rest) gTab gTabType Tryd.underlying114 Tryd.underlying23 cells23 cells114 h
  intro j hj
  have h1 := ht.cell gTab j (by simpa using hj)
  rw [h1]
  have : ∀ j, j < 16 → (([0, 498536548, 997073096, 651767980, 1994146192, 1802195444, 1303535960, 1342533948, 3988292384, 4027552580, 3604390888, 3412177804, 2607071920, 2262029012, 2685067896, 3183342108] : List Int).getD j 0) = ((CrcPlain.tab.getD j 0 : Nat) : Int) := by decide
  rw [this j hj]
end Go.Proofs.YtieipnnpkngegaaDoor
