/- Which frames may be: the table of functions asked. -/
import Derived.Test.YtieipnnpkngegaaDoorFr
namespace Go.Proofs.YtieipnnpkngegaaDoor
open Go.RowKit Go.Proofs.YtieipnnpkngegaaDoorW.PrintWords

set_option maxRecDepth 100000 in
set_option maxHeartbeats 3200000 in
theorem may_any (w : World) (f : Frm) (hf : f.Ok) (A : Option Addr) (c : Nat) (hT : MayT w) :
    Calls Tryd.prog 44 #[.agg (f.cs (.slice A f.pl.length c))] w fun e w' => e = .returned (.bool (mayB f)) ∧ Keeps No w w' := by
  obtain ⟨kind, ses, ep, num, ack, mask, pl⟩ := f
  have hk := hf.kind
  simp only at hk
  have t1 := fun o => (hT.keptNo ((Keeps.refl No w).alloc o)).c1
  have t2 := fun o => (hT.keptNo ((Keeps.refl No w).alloc o)).c2
  have t3 := fun o => (hT.keptNo ((Keeps.refl No w).alloc o)).c3
  have t4 := fun o => (hT.keptNo ((Keeps.refl No w).alloc o)).c4
  have t5 := fun o => (hT.keptNo ((Keeps.refl No w).alloc o)).c5
  simp only [Frm.cs]
  by_cases k0 : kind = 0
  · subst k0
    rw [show mayB ⟨0, ses, ep, num, ack, mask, pl⟩ = false from by simp [mayB]]
    generalize pl.length = n at *
    go_enter Tryd.func44, Tryd.ntmps44
    go_wp2
    go_region
    all_goals
      go_wp2
      go_ret
      exact ⟨rfl, by first | exact ((Keeps.refl No w).alloc _).drew | exact (Keeps.refl No w).alloc _⟩
  by_cases k6 : 5 < kind
  · rw [show mayB ⟨kind, ses, ep, num, ack, mask, pl⟩ = false from by
      have a1 : ¬ kind = 1 := by omega
      have a2 : ¬ kind = 2 := by omega
      have a3 : ¬ kind = 3 := by omega
      have a4 : ¬ kind = 4 := by omega
      have a5 : ¬ kind = 5 := by omega
      simp [mayB, a1, a2, a3, a4, a5]]
    generalize pl.length = n at *
    have h1 : (1 : Int) ≤ kind := by omega
    have h5 : decide ((kind : Int) ≤ 5) = false := decide_eq_false (by omega)
    go_enter Tryd.func44, Tryd.ntmps44
    go_wp2
    go_region
    all_goals
      go_wp2
      go_ret
      exact ⟨rfl, by first | exact ((Keeps.refl No w).alloc _).drew | exact (Keeps.refl No w).alloc _⟩
  by_cases hn : pl.length ≤ 256
  case neg =>
    rw [show mayB ⟨kind, ses, ep, num, ack, mask, pl⟩ = false from by simp [mayB, hn]]
    generalize pl.length = n at *
    have h1 : (1 : Int) ≤ kind := by omega
    have h5 : ((kind : Int) ≤ 5) := by omega
    have hn' : decide ((n : Int) ≤ 256) = false := decide_eq_false (by omega)
    go_enter Tryd.func44, Tryd.ntmps44
    go_wp2
    go_region
    all_goals
      go_wp2
      go_ret
      exact ⟨rfl, by first | exact ((Keeps.refl No w).alloc _).drew | exact (Keeps.refl No w).alloc _⟩
  by_cases k1 : kind = 1
  · subst k1
    have HM := Lib.hid (show mayB ⟨1, ses, ep, num, ack, mask, pl⟩ = (bareB ⟨1, ses, ep, num, ack, mask, pl⟩) from by simp [mayB, hn])
    have HF := Lib.hid (fun W => bare_any W ⟨1, ses, ep, num, ack, mask, pl⟩ A c)
    simp only [Frm.cs] at HF
    rw [HM.out]
    generalize (bareB ⟨1, ses, ep, num, ack, mask, pl⟩) = bv at *
    generalize pl.length = n at *
    have hn' : ((n : Int) ≤ 256) := by omega
    go_enter Tryd.func44, Tryd.ntmps44
    go_wp2
    go_region_with (go_at_call 95; refine (HF.out _).mono ?_; rintro e wx ⟨rfl, hx⟩; have HX := Lib.hid hx; clear hx)
    all_goals
      go_wp2
      go_ret
      exact ⟨rfl, ((Keeps.refl No w).alloc _).drew.then HX.out⟩
  by_cases k2 : kind = 2
  · subst k2
    have HM := Lib.hid (show mayB ⟨2, ses, ep, num, ack, mask, pl⟩ = (bareB ⟨2, ses, ep, num, ack, mask, pl⟩) from by simp [mayB, hn])
    have HF := Lib.hid (fun W => bare_any W ⟨2, ses, ep, num, ack, mask, pl⟩ A c)
    simp only [Frm.cs] at HF
    rw [HM.out]
    generalize (bareB ⟨2, ses, ep, num, ack, mask, pl⟩) = bv at *
    generalize pl.length = n at *
    have hn' : ((n : Int) ≤ 256) := by omega
    go_enter Tryd.func44, Tryd.ntmps44
    go_wp2
    go_region_with (go_at_call 95; refine (HF.out _).mono ?_; rintro e wx ⟨rfl, hx⟩; have HX := Lib.hid hx; clear hx)
    all_goals
      go_wp2
      go_ret
      exact ⟨rfl, ((Keeps.refl No w).alloc _).drew.then HX.out⟩
  by_cases k3 : kind = 3
  · subst k3
    have HM := Lib.hid (show mayB ⟨3, ses, ep, num, ack, mask, pl⟩ = (decide (num < 2147483648)) from by simp [mayB, hn])
    have HF := Lib.hid (fun W => data_any W ⟨3, ses, ep, num, ack, mask, pl⟩ A c)
    simp only [Frm.cs] at HF
    rw [HM.out]
    generalize (decide (num < 2147483648)) = bv at *
    generalize pl.length = n at *
    have hn' : ((n : Int) ≤ 256) := by omega
    go_enter Tryd.func44, Tryd.ntmps44
    go_wp2
    go_region_with (go_at_call 96; refine (HF.out _).mono ?_; rintro e wx ⟨rfl, hx⟩; have HX := Lib.hid hx; clear hx)
    all_goals
      go_wp2
      go_ret
      exact ⟨rfl, ((Keeps.refl No w).alloc _).drew.then HX.out⟩
  by_cases k4 : kind = 4
  · subst k4
    have HM := Lib.hid (show mayB ⟨4, ses, ep, num, ack, mask, pl⟩ = ((decide (num = 0) && decide (pl.length = 0))) from by simp [mayB, hn])
    have HF := Lib.hid (fun W => ack_any W ⟨4, ses, ep, num, ack, mask, pl⟩ A c)
    simp only [Frm.cs] at HF
    rw [HM.out]
    generalize ((decide (num = 0) && decide (pl.length = 0))) = bv at *
    generalize pl.length = n at *
    have hn' : ((n : Int) ≤ 256) := by omega
    go_enter Tryd.func44, Tryd.ntmps44
    go_wp2
    go_region_with (go_at_call 97; refine (HF.out _).mono ?_; rintro e wx ⟨rfl, hx⟩; have HX := Lib.hid hx; clear hx)
    all_goals
      go_wp2
      go_ret
      exact ⟨rfl, ((Keeps.refl No w).alloc _).drew.then HX.out⟩
  by_cases k5 : kind = 5
  · subst k5
    have HM := Lib.hid (show mayB ⟨5, ses, ep, num, ack, mask, pl⟩ = (bareB ⟨5, ses, ep, num, ack, mask, pl⟩) from by simp [mayB, hn])
    have HF := Lib.hid (fun W => bare_any W ⟨5, ses, ep, num, ack, mask, pl⟩ A c)
    simp only [Frm.cs] at HF
    rw [HM.out]
    generalize (bareB ⟨5, ses, ep, num, ack, mask, pl⟩) = bv at *
    generalize pl.length = n at *
    have hn' : ((n : Int) ≤ 256) := by omega
    go_enter Tryd.func44, Tryd.ntmps44
    go_wp2
    go_region_with (go_at_call 95; refine (HF.out _).mono ?_; rintro e wx ⟨rfl, hx⟩; have HX := Lib.hid hx; clear hx)
    all_goals
      go_wp2
      go_ret
      exact ⟨rfl, ((Keeps.refl No w).alloc _).drew.then HX.out⟩
  omega
end Go.Proofs.YtieipnnpkngegaaDoor
