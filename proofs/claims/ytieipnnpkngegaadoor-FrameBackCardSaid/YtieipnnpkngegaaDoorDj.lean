/- Frames held against each other: the program's 'same'. -/
import Derived.Test.YtieipnnpkngegaaDoorDi
namespace Go.Proofs.YtieipnnpkngegaaDoor
open Go.RowKit Go.Proofs.YtieipnnpkngegaaDoorW.PrintWords
set_option maxRecDepth 100000 in
set_option maxHeartbeats 6400000 in
theorem psame_any (w : World) (f g : Frm) (A A' : Option Addr) (c c' : Nat) (hR : Rd w A f.pl.length f.pl) (hR' : Rd w A' g.pl.length g.pl) :
    Calls Tryd.prog 51 #[.agg (f.cs (.slice A f.pl.length c)), .agg (g.cs (.slice A' g.pl.length c'))] w fun e w' => e = .returned (.bool (sameB f g)) ∧ Keeps No w w' := by
  have HE := Lib.hid (fun W (k : Keeps No w W) => sequal_any W A A' _ _ c c' f.pl g.pl (k.rdNo hR) (k.rdNo hR'))
  have HS := Lib.hid (show sameB f g = _ from rfl)
  obtain ⟨kind, ses, ep, num, ack, mask, pl⟩ := f
  obtain ⟨kind', ses', ep', num', ack', mask', pl'⟩ := g
  clear hR hR'
  simp only [Frm.cs, sameB] at *
  generalize pl.length = n at *
  generalize pl'.length = n' at *
  generalize decide (pl = pl') = dp at *
  clear HS
  by_cases h0 : kind = kind'
  case neg =>
    have hb := neqB h0
    have HH := Lib.hid h0
    clear h0
    go_enter Tryd.func51, Tryd.ntmps51
    go_wp2
    go_ret
    refine ⟨ret_eq (congrArg Value.bool ?_), ((Keeps.refl No w).alloc _).alloc _⟩
    have hd := decide_eq_false HH.out
    simp [hd]
  subst h0
  by_cases h1 : ses = ses'
  case neg =>
    have hb := neqB h1
    have HH := Lib.hid h1
    clear h1
    go_enter Tryd.func51, Tryd.ntmps51
    go_wp2
    go_ret
    refine ⟨ret_eq (congrArg Value.bool ?_), ((Keeps.refl No w).alloc _).alloc _⟩
    have hd := decide_eq_false HH.out
    simp [hd]
  subst h1
  by_cases h2 : ep = ep'
  case neg =>
    have hb := neqB h2
    have HH := Lib.hid h2
    clear h2
    go_enter Tryd.func51, Tryd.ntmps51
    go_wp2
    go_ret
    refine ⟨ret_eq (congrArg Value.bool ?_), ((Keeps.refl No w).alloc _).alloc _⟩
    have hd := decide_eq_false HH.out
    simp [hd]
  subst h2
  by_cases h3 : num = num'
  case neg =>
    have hb := neqB h3
    have HH := Lib.hid h3
    clear h3
    go_enter Tryd.func51, Tryd.ntmps51
    go_wp2
    go_ret
    refine ⟨ret_eq (congrArg Value.bool ?_), ((Keeps.refl No w).alloc _).alloc _⟩
    have hd := decide_eq_false HH.out
    simp [hd]
  subst h3
  by_cases h4 : ack = ack'
  case neg =>
    have hb := neqB h4
    have HH := Lib.hid h4
    clear h4
    go_enter Tryd.func51, Tryd.ntmps51
    go_wp2
    go_ret
    refine ⟨ret_eq (congrArg Value.bool ?_), ((Keeps.refl No w).alloc _).alloc _⟩
    have hd := decide_eq_false HH.out
    simp [hd]
  subst h4
  by_cases h5 : mask = mask'
  case neg =>
    have hb := neqB h5
    have HH := Lib.hid h5
    clear h5
    go_enter Tryd.func51, Tryd.ntmps51
    go_wp2
    go_ret
    refine ⟨ret_eq (congrArg Value.bool ?_), ((Keeps.refl No w).alloc _).alloc _⟩
    have hd := decide_eq_false HH.out
    simp [hd]
  subst h5
  go_enter Tryd.func51, Tryd.ntmps51
  go_wp2_with fail
  refine (HE.out _ (((Keeps.refl No w).alloc _).alloc _)).mono ?_
  rintro e wx ⟨rfl, hx⟩
  have HX := Lib.hid hx
  clear hx
  go_wp2
  go_ret
  exact ⟨ret_eq (congrArg Value.bool (by simp)), (((Keeps.refl No w).alloc _).alloc _).then HX.out⟩
end Go.Proofs.YtieipnnpkngegaaDoor
