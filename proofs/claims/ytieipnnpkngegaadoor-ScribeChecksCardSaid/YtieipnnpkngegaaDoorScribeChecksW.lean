/- The walk of the law ScribeChecks: the check of any bytes is the document's. -/
import Derived.Test.YtieipnnpkngegaaDoorWk
namespace Go.Proofs.YtieipnnpkngegaaDoor
open Go.RowKit Go.Proofs.YtieipnnpkngegaaDoorW.PrintWords
set_option maxHeartbeats 1600000 in
theorem scribeChecks_walk (w : World) (A : Option Addr) (n c : Nat) (l : List UInt8) (hR : Rd w A n l) (hc : n ≤ c) (hT : Tabb w) :
    Calls Tryd.prog 3 #[.slice A n c] w fun e w' => e = .returned (.bool true) ∧ Keeps No w w' := by
  have hn : n ≤ 9223372036854775807 := hR.2.1
  have hT' := Lib.hid hT
  have HR := Lib.hid (hR.take (min n 2000) (by omega))
  have hmin := min_num n 2000 2000 rfl
  clear hT hR
  go_enter Tryd.func3, Tryd.ntmps3
  go_wp2_with fail
  refine (crc_any _ _ _ _ _ HR.out hT'.out).mono ?_
  rintro e w1 ⟨rfl, rfl⟩
  go_wp2_with fail
  refine (refcrc_any _ _ _ _ _ HR.out).mono ?_
  rintro e w1 ⟨rfl, rfl⟩
  go_wp2_with fail
  refine (wakes_any _ hT'.out).mono ?_
  rintro e w1 ⟨rfl, hk⟩
  go_wp2
  go_ret
  exact ⟨rfl, hk⟩
end Go.Proofs.YtieipnnpkngegaaDoor
