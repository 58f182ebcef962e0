/- The walk of the law PatternKnown. -/
import Derived.Test.YtobnljndaabkaaaWWk
import Derived.Test.YtobnljndaabkaaaWMp
namespace Go.Proofs.Ytobnljndaabkaaa
open Go.RowKit Go.Proofs.YtobnljndaabkaaaW.PrintWords PatL

def spc : T := [91, 99, 45, 97, 93, 120, 91, 98, 93]
def good1B (p s : ByteArray) : Bool :=
  decide (p.size ≤ 1000) && decide (s.size ≤ 1000) && (decide (p.data.toList = spc) && decide (s.data.toList = spc) || decide (p.data.toList ≠ spc) && (!point (piecesF p.data.toList) s.data.toList && mts (piecesF p.data.toList) s.data.toList))
def Good1 (p s : ByteArray) : Prop := p.size ≤ 1000 ∧ s.size ≤ 1000 ∧ (p = ⟨#[91, 99, 45, 97, 93, 120, 91, 98, 93]⟩ ∧ s = ⟨#[91, 99, 45, 97, 93, 120, 91, 98, 93]⟩ ∨ (p.toList == [91, 99, 45, 97, 93, 120, 91, 98, 93]) = false ∧ mtch p.data.toList s.data.toList = true)
theorem arr_of {p : ByteArray} {l : T} (h : p.data.toList = l) : p = ⟨l.toArray⟩ := by
  subst h; exact ByteArray.ext (by simp)
theorem good1_of {p s : ByteArray} (h : good1B p s = true) : Good1 p s := by
  unfold good1B at h
  simp only [Bool.and_eq_true, Bool.or_eq_true, decide_eq_true_eq] at h
  obtain ⟨⟨h1, h2⟩, h3⟩ := h
  refine ⟨h1, h2, ?_⟩
  rcases h3 with ⟨h4, h5⟩ | ⟨h4, h5⟩
  · exact Or.inl ⟨arr_of h4, arr_of h5⟩
  · refine Or.inr ⟨?_, ?_⟩
    · rw [toList_data]
      simpa [spc] using h4
    · rw [mtch_eq, h5.1, h5.2]; rfl
def good2B (p s : ByteArray) : Bool :=
  decide (p.size ≤ 1000) && decide (s.size ≤ 1000) && !(!point (piecesF p.data.toList) s.data.toList && mts (piecesF p.data.toList) s.data.toList)
def Good2 (p s : ByteArray) : Prop := p.size ≤ 1000 ∧ s.size ≤ 1000 ∧ mtch p.data.toList s.data.toList = false
theorem good2_of {p s : ByteArray} (h : good2B p s = true) : Good2 p s := by
  unfold good2B at h
  simp only [Bool.and_eq_true, decide_eq_true_eq] at h
  obtain ⟨⟨h1, h2⟩, h3⟩ := h
  refine ⟨h1, h2, ?_⟩
  rw [mtch_eq]
  simpa only [Bool.not_eq_true'] using h3

theorem quote_lit (w : World) : Calls Try.prog 20 #[.string ⟨#[97, 42, 91, 92, 93, 63]⟩] w fun e w' => e = .returned (.string ⟨#[97, 92, 42, 92, 91, 92, 92, 93, 92, 63]⟩) ∧ Keeps No w w' := by
  have h := quote_any w ⟨#[97, 42, 91, 92, 93, 63]⟩ (by decide)
  have e : (quote (⟨#[97, 42, 91, 92, 93, 63]⟩ : ByteArray).data.toList).toArray = #[97, 92, 42, 92, 91, 92, 92, 93, 92, 63] := by decide +kernel
  rw [e] at h
  exact h
set_option linter.unusedSimpArgs false in
set_option maxRecDepth 100000 in
set_option maxHeartbeats 3200000 in
theorem patternKnown_walk (w : World) : Calls Try.prog 7 #[] w fun e w' => e = .returned (.bool true) ∧ Keeps No w w' := by
  go_enter Try.func7, Try.ntmps7
  have cma := run_makeMap (P := Try.prog) 37 w
  have Ha0 := MapG.made Good1 Try.prog 9 w
  have Ka0 := (Keeps.refl No w).alloc (.map #[] 0)
  generalize w.alloc (.map #[] 0) = a0 at *
  obtain ⟨a1, ca1, Ha1, Ka1⟩ := ins_run (t := 37) Try.underlying9 Try.underlying37 Ha0 Ka0 (Nat.le_refl _) (by decide) ⟨#[]⟩ ⟨#[]⟩ (by decide) (by decide) (good1_of (by decide +kernel))
  clear Ha0 Ka0
  obtain ⟨a2, ca2, Ha2, Ka2⟩ := ins_run (t := 37) Try.underlying9 Try.underlying37 Ha1 Ka1 (Nat.le_refl _) (by decide) ⟨#[42]⟩ ⟨#[97, 98, 99]⟩ (by decide) (by decide) (good1_of (by decide +kernel))
  clear Ha1 Ka1
  obtain ⟨a3, ca3, Ha3, Ka3⟩ := ins_run (t := 37) Try.underlying9 Try.underlying37 Ha2 Ka2 (Nat.le_refl _) (by decide) ⟨#[42, 42]⟩ ⟨#[]⟩ (by decide) (by decide) (good1_of (by decide +kernel))
  clear Ha2 Ka2
  obtain ⟨a4, ca4, Ha4, Ka4⟩ := ins_run (t := 37) Try.underlying9 Try.underlying37 Ha3 Ka3 (Nat.le_refl _) (by decide) ⟨#[63]⟩ ⟨#[97]⟩ (by decide) (by decide) (good1_of (by decide +kernel))
  clear Ha3 Ka3
  obtain ⟨a5, ca5, Ha5, Ka5⟩ := ins_run (t := 37) Try.underlying9 Try.underlying37 Ha4 Ka4 (Nat.le_refl _) (by decide) ⟨#[97]⟩ ⟨#[97]⟩ (by decide) (by decide) (good1_of (by decide +kernel))
  clear Ha4 Ka4
  obtain ⟨a6, ca6, Ha6, Ka6⟩ := ins_run (t := 37) Try.underlying9 Try.underlying37 Ha5 Ka5 (Nat.le_refl _) (by decide) ⟨#[92, 42]⟩ ⟨#[42]⟩ (by decide) (by decide) (good1_of (by decide +kernel))
  clear Ha5 Ka5
  obtain ⟨a7, ca7, Ha7, Ka7⟩ := ins_run (t := 37) Try.underlying9 Try.underlying37 Ha6 Ka6 (Nat.le_refl _) (by decide) ⟨#[92]⟩ ⟨#[92]⟩ (by decide) (by decide) (good1_of (by decide +kernel))
  clear Ha6 Ka6
  obtain ⟨a8, ca8, Ha8, Ka8⟩ := ins_run (t := 37) Try.underlying9 Try.underlying37 Ha7 Ka7 (Nat.le_refl _) (by decide) ⟨#[97, 92]⟩ ⟨#[97, 92]⟩ (by decide) (by decide) (good1_of (by decide +kernel))
  clear Ha7 Ka7
  obtain ⟨a9, ca9, Ha9, Ka9⟩ := ins_run (t := 37) Try.underlying9 Try.underlying37 Ha8 Ka8 (Nat.le_refl _) (by decide) ⟨#[91]⟩ ⟨#[91]⟩ (by decide) (by decide) (good1_of (by decide +kernel))
  clear Ha8 Ka8
  obtain ⟨a10, ca10, Ha10, Ka10⟩ := ins_run (t := 37) Try.underlying9 Try.underlying37 Ha9 Ka9 (Nat.le_refl _) (by decide) ⟨#[91, 97]⟩ ⟨#[91, 97]⟩ (by decide) (by decide) (good1_of (by decide +kernel))
  clear Ha9 Ka9
  obtain ⟨a11, ca11, Ha11, Ka11⟩ := ins_run (t := 37) Try.underlying9 Try.underlying37 Ha10 Ka10 (Nat.le_refl _) (by decide) ⟨#[91, 93]⟩ ⟨#[91, 93]⟩ (by decide) (by decide) (good1_of (by decide +kernel))
  clear Ha10 Ka10
  obtain ⟨a12, ca12, Ha12, Ka12⟩ := ins_run (t := 37) Try.underlying9 Try.underlying37 Ha11 Ka11 (Nat.le_refl _) (by decide) ⟨#[91, 33]⟩ ⟨#[91, 33]⟩ (by decide) (by decide) (good1_of (by decide +kernel))
  clear Ha11 Ka11
  obtain ⟨a13, ca13, Ha13, Ka13⟩ := ins_run (t := 37) Try.underlying9 Try.underlying37 Ha12 Ka12 (Nat.le_refl _) (by decide) ⟨#[91, 33, 93]⟩ ⟨#[91, 33, 93]⟩ (by decide) (by decide) (good1_of (by decide +kernel))
  clear Ha12 Ka12
  obtain ⟨a14, ca14, Ha14, Ka14⟩ := ins_run (t := 37) Try.underlying9 Try.underlying37 Ha13 Ka13 (Nat.le_refl _) (by decide) ⟨#[91, 93, 93]⟩ ⟨#[93]⟩ (by decide) (by decide) (good1_of (by decide +kernel))
  clear Ha13 Ka13
  obtain ⟨a15, ca15, Ha15, Ka15⟩ := ins_run (t := 37) Try.underlying9 Try.underlying37 Ha14 Ka14 (Nat.le_refl _) (by decide) ⟨#[91, 33, 93, 93]⟩ ⟨#[120]⟩ (by decide) (by decide) (good1_of (by decide +kernel))
  clear Ha14 Ka14
  obtain ⟨a16, ca16, Ha16, Ka16⟩ := ins_run (t := 37) Try.underlying9 Try.underlying37 Ha15 Ka15 (Nat.le_refl _) (by decide) ⟨#[91, 97, 45, 99, 93]⟩ ⟨#[98]⟩ (by decide) (by decide) (good1_of (by decide +kernel))
  clear Ha15 Ka15
  obtain ⟨a17, ca17, Ha17, Ka17⟩ := ins_run (t := 37) Try.underlying9 Try.underlying37 Ha16 Ka16 (Nat.le_refl _) (by decide) ⟨#[91, 45, 97, 93]⟩ ⟨#[45]⟩ (by decide) (by decide) (good1_of (by decide +kernel))
  clear Ha16 Ka16
  obtain ⟨a18, ca18, Ha18, Ka18⟩ := ins_run (t := 37) Try.underlying9 Try.underlying37 Ha17 Ka17 (Nat.le_refl _) (by decide) ⟨#[91, 97, 45, 93]⟩ ⟨#[45]⟩ (by decide) (by decide) (good1_of (by decide +kernel))
  clear Ha17 Ka17
  obtain ⟨a19, ca19, Ha19, Ka19⟩ := ins_run (t := 37) Try.underlying9 Try.underlying37 Ha18 Ka18 (Nat.le_refl _) (by decide) ⟨#[91, 97, 45, 99, 45, 101, 93]⟩ ⟨#[45]⟩ (by decide) (by decide) (good1_of (by decide +kernel))
  clear Ha18 Ka18
  obtain ⟨a20, ca20, Ha20, Ka20⟩ := ins_run (t := 37) Try.underlying9 Try.underlying37 Ha19 Ka19 (Nat.le_refl _) (by decide) ⟨#[91, 92, 93, 93]⟩ ⟨#[93]⟩ (by decide) (by decide) (good1_of (by decide +kernel))
  clear Ha19 Ka19
  obtain ⟨a21, ca21, Ha21, Ka21⟩ := ins_run (t := 37) Try.underlying9 Try.underlying37 Ha20 Ka20 (Nat.le_refl _) (by decide) ⟨#[91, 97, 92, 45, 99, 93]⟩ ⟨#[45]⟩ (by decide) (by decide) (good1_of (by decide +kernel))
  clear Ha20 Ka20
  obtain ⟨a22, ca22, Ha22, Ka22⟩ := ins_run (t := 37) Try.underlying9 Try.underlying37 Ha21 Ka21 (Nat.le_refl _) (by decide) ⟨#[91, 91, 93]⟩ ⟨#[91]⟩ (by decide) (by decide) (good1_of (by decide +kernel))
  clear Ha21 Ka21
  obtain ⟨a23, ca23, Ha23, Ka23⟩ := ins_run (t := 37) Try.underlying9 Try.underlying37 Ha22 Ka22 (Nat.le_refl _) (by decide) ⟨#[91, 42, 93]⟩ ⟨#[42]⟩ (by decide) (by decide) (good1_of (by decide +kernel))
  clear Ha22 Ka22
  obtain ⟨a24, ca24, Ha24, Ka24⟩ := ins_run (t := 37) Try.underlying9 Try.underlying37 Ha23 Ka23 (Nat.le_refl _) (by decide) ⟨#[91, 99, 45, 97, 93, 120, 91, 98, 93]⟩ ⟨#[91, 99, 45, 97, 93, 120, 91, 98, 93]⟩ (by decide) (by decide) (good1_of (by decide +kernel))
  clear Ha23 Ka23
  obtain ⟨a25, ca25, Ha25, Ka25⟩ := ins_run (t := 37) Try.underlying9 Try.underlying37 Ha24 Ka24 (Nat.le_refl _) (by decide) ⟨#[120, 42, 121, 42, 122]⟩ ⟨#[120, 121, 97, 121, 122]⟩ (by decide) (by decide) (good1_of (by decide +kernel))
  clear Ha24 Ka24
  obtain ⟨a26, ca26, Ha26, Ka26⟩ := ins_run (t := 37) Try.underlying9 Try.underlying37 Ha25 Ka25 (Nat.le_refl _) (by decide) ⟨#[42, 97, 42, 98]⟩ ⟨#[120, 97, 97, 97, 98]⟩ (by decide) (by decide) (good1_of (by decide +kernel))
  clear Ha25 Ka25
  obtain ⟨a27, ca27, Ha27, Ka27⟩ := ins_run (t := 37) Try.underlying9 Try.underlying37 Ha26 Ka26 (Nat.le_refl _) (by decide) ⟨#[91, 97, 93, 42]⟩ ⟨#[97, 98, 99]⟩ (by decide) (by decide) (good1_of (by decide +kernel))
  clear Ha26 Ka26
  obtain ⟨a28, ca28, Ha28, Ka28⟩ := ins_run (t := 37) Try.underlying9 Try.underlying37 Ha27 Ka27 (Nat.le_refl _) (by decide) ⟨#[46, 42]⟩ ⟨#[46]⟩ (by decide) (by decide) (good1_of (by decide +kernel))
  clear Ha27 Ka27
  obtain ⟨a29, ca29, Ha29, Ka29⟩ := ins_run (t := 37) Try.underlying9 Try.underlying37 Ha28 Ka28 (Nat.le_refl _) (by decide) ⟨#[46, 91, 97, 93]⟩ ⟨#[46, 97]⟩ (by decide) (by decide) (good1_of (by decide +kernel))
  clear Ha28 Ka28
  obtain ⟨a30, ca30, Ha30, Ka30⟩ := ins_run (t := 37) Try.underlying9 Try.underlying37 Ha29 Ka29 (Nat.le_refl _) (by decide) ⟨#[92, 46, 120]⟩ ⟨#[46, 120]⟩ (by decide) (by decide) (good1_of (by decide +kernel))
  clear Ha29 Ka29
  obtain ⟨ar, cnta, car, hrga, hkra⟩ := rng_run (t := 37) Try.underlying9 Try.underlying37 Ha30 Ka30
  have HRa := Lib.hid hrga
  have KRa := Lib.hid hkra
  have HBa := Lib.hid (show w.heap.size ≤ a30.heap.size from Ka30.size)
  clear hrga hkra Ha30 Ka30
  go_wp2
  clear cma ca1 ca2 ca3 ca4 ca5 ca6 ca7 ca8 ca9 ca10 ca11 ca12 ca13 ca14 ca15 ca16 ca17 ca18 ca19 ca20 ca21 ca22 ca23 ca24 ca25 ca26 ca27 ca28 ca29 ca30 car
  go_loopw [1, 2] (fun _ _ wr => ∃ cnt, RanG Good1 Try.prog 9 w.heap.size a30.heap.size 30 cnt wr ∧ Keeps No w wr) (fun _ _ wr => wr.rangeLeft w.heap.size a30.heap.size)
  case atStart => exact ⟨cnta, HRa.out, KRa.out⟩
  case round =>
    obtain ⟨cnt, hrg, hkr⟩ := hrel
    rcases nxt_run 0 Try.underlying9 hrg hkr HBa.out with cn | ⟨p, s, wn, cnt', cn, hg, hrg', hlt, hkn, ce⟩
    · have KR := Lib.hid hkr
      clear hrg hkr HRa KRa HBa
      have cmb := run_makeMap (P := Try.prog) 37 wr
      have Hb0 := MapG.made Good2 Try.prog 9 wr
      have Kb0 := KR.out.alloc (.map #[] 0)
      generalize wr.alloc (.map #[] 0) = b0 at *
      obtain ⟨b1, cb1, Hb1, Kb1⟩ := ins_run (t := 37) Try.underlying9 Try.underlying37 Hb0 Kb0 (KR.out.size) (by decide) ⟨#[]⟩ ⟨#[97]⟩ (by decide) (by decide) (good2_of (by decide +kernel))
      clear Hb0 Kb0
      obtain ⟨b2, cb2, Hb2, Kb2⟩ := ins_run (t := 37) Try.underlying9 Try.underlying37 Hb1 Kb1 (KR.out.size) (by decide) ⟨#[97]⟩ ⟨#[]⟩ (by decide) (by decide) (good2_of (by decide +kernel))
      clear Hb1 Kb1
      obtain ⟨b3, cb3, Hb3, Kb3⟩ := ins_run (t := 37) Try.underlying9 Try.underlying37 Hb2 Kb2 (KR.out.size) (by decide) ⟨#[63]⟩ ⟨#[]⟩ (by decide) (by decide) (good2_of (by decide +kernel))
      clear Hb2 Kb2
      obtain ⟨b4, cb4, Hb4, Kb4⟩ := ins_run (t := 37) Try.underlying9 Try.underlying37 Hb3 Kb3 (KR.out.size) (by decide) ⟨#[42]⟩ ⟨#[46, 97]⟩ (by decide) (by decide) (good2_of (by decide +kernel))
      clear Hb3 Kb3
      obtain ⟨b5, cb5, Hb5, Kb5⟩ := ins_run (t := 37) Try.underlying9 Try.underlying37 Hb4 Kb4 (KR.out.size) (by decide) ⟨#[63, 97]⟩ ⟨#[46, 97]⟩ (by decide) (by decide) (good2_of (by decide +kernel))
      clear Hb4 Kb4
      obtain ⟨b6, cb6, Hb6, Kb6⟩ := ins_run (t := 37) Try.underlying9 Try.underlying37 Hb5 Kb5 (KR.out.size) (by decide) ⟨#[91, 46, 93, 97]⟩ ⟨#[46, 97]⟩ (by decide) (by decide) (good2_of (by decide +kernel))
      clear Hb5 Kb5
      obtain ⟨b7, cb7, Hb7, Kb7⟩ := ins_run (t := 37) Try.underlying9 Try.underlying37 Hb6 Kb6 (KR.out.size) (by decide) ⟨#[91, 33, 120, 93, 97]⟩ ⟨#[46, 97]⟩ (by decide) (by decide) (good2_of (by decide +kernel))
      clear Hb6 Kb6
      obtain ⟨b8, cb8, Hb8, Kb8⟩ := ins_run (t := 37) Try.underlying9 Try.underlying37 Hb7 Kb7 (KR.out.size) (by decide) ⟨#[42, 46, 97]⟩ ⟨#[46, 97]⟩ (by decide) (by decide) (good2_of (by decide +kernel))
      clear Hb7 Kb7
      obtain ⟨b9, cb9, Hb9, Kb9⟩ := ins_run (t := 37) Try.underlying9 Try.underlying37 Hb8 Kb8 (KR.out.size) (by decide) ⟨#[97, 63]⟩ ⟨#[97]⟩ (by decide) (by decide) (good2_of (by decide +kernel))
      clear Hb8 Kb8
      obtain ⟨b10, cb10, Hb10, Kb10⟩ := ins_run (t := 37) Try.underlying9 Try.underlying37 Hb9 Kb9 (KR.out.size) (by decide) ⟨#[91, 97, 45, 99, 93]⟩ ⟨#[100]⟩ (by decide) (by decide) (good2_of (by decide +kernel))
      clear Hb9 Kb9
      obtain ⟨b11, cb11, Hb11, Kb11⟩ := ins_run (t := 37) Try.underlying9 Try.underlying37 Hb10 Kb10 (KR.out.size) (by decide) ⟨#[91, 33, 97, 45, 99, 93]⟩ ⟨#[98]⟩ (by decide) (by decide) (good2_of (by decide +kernel))
      clear Hb10 Kb10
      obtain ⟨b12, cb12, Hb12, Kb12⟩ := ins_run (t := 37) Try.underlying9 Try.underlying37 Hb11 Kb11 (KR.out.size) (by decide) ⟨#[91, 93, 97, 93]⟩ ⟨#[98]⟩ (by decide) (by decide) (good2_of (by decide +kernel))
      clear Hb11 Kb11
      obtain ⟨b13, cb13, Hb13, Kb13⟩ := ins_run (t := 37) Try.underlying9 Try.underlying37 Hb12 Kb12 (KR.out.size) (by decide) ⟨#[97, 42, 98]⟩ ⟨#[97, 98, 99]⟩ (by decide) (by decide) (good2_of (by decide +kernel))
      clear Hb12 Kb12
      obtain ⟨b14, cb14, Hb14, Kb14⟩ := ins_run (t := 37) Try.underlying9 Try.underlying37 Hb13 Kb13 (KR.out.size) (by decide) ⟨#[92, 97]⟩ ⟨#[98]⟩ (by decide) (by decide) (good2_of (by decide +kernel))
      clear Hb13 Kb13
      obtain ⟨b15, cb15, Hb15, Kb15⟩ := ins_run (t := 37) Try.underlying9 Try.underlying37 Hb14 Kb14 (KR.out.size) (by decide) ⟨#[42, 42, 97]⟩ ⟨#[98]⟩ (by decide) (by decide) (good2_of (by decide +kernel))
      clear Hb14 Kb14
      obtain ⟨br, cntb, cbr, hrgb, hkrb⟩ := rng_run (t := 37) Try.underlying9 Try.underlying37 Hb15 Kb15
      have HRb := Lib.hid hrgb
      have KRb := Lib.hid hkrb
      have HBb := Lib.hid (show w.heap.size ≤ b15.heap.size from Kb15.size)
      clear hrgb hkrb Hb15 Kb15
      go_wp2
      clear cn
      clear cmb cb1 cb2 cb3 cb4 cb5 cb6 cb7 cb8 cb9 cb10 cb11 cb12 cb13 cb14 cb15 cbr
      go_loopw [3, 4] (fun _ _ wq => ∃ cnt, RanG Good2 Try.prog 9 wr.heap.size b15.heap.size 15 cnt wq ∧ Keeps No w wq) (fun _ _ wq => wq.rangeLeft wr.heap.size b15.heap.size)
      case atStart => exact ⟨cntb, HRb.out, KRb.out⟩
      case round =>
        obtain ⟨cnt2, hrg, hkr⟩ := hrel
        rcases nxt_run 0 Try.underlying9 hrg hkr HBb.out with cn | ⟨p, s, wn, cnt', cn, hg, hrg', hlt, hkn, ce⟩
        · have KQ := Lib.hid hkr
          clear hrg hkr HRb KRb HBb
          go_wp2_with fail
          refine (alive_is _ ⟨#[91, 97]⟩ false (by decide) (by decide +kernel)).mono ?_
          rintro e z0 ⟨rfl, hk⟩
          have Kz0 := Lib.hid (KQ.out.then hk)
          clear hk cn
          go_wp2_with fail
          refine (alive_is _ ⟨#[91, 97, 93]⟩ true (by decide) (by decide +kernel)).mono ?_
          rintro e z1 ⟨rfl, hk⟩
          have Kz1 := Lib.hid (Kz0.out.then hk)
          clear hk
          go_wp2_with fail
          refine (alive_is _ ⟨#[92, 42, 92, 63, 92, 91, 97, 93]⟩ false (by decide) (by decide +kernel)).mono ?_
          rintro e z2 ⟨rfl, hk⟩
          have Kz2 := Lib.hid (Kz1.out.then hk)
          clear hk
          go_wp2_with fail
          refine (alive_is _ ⟨#[]⟩ false (by decide) (by decide +kernel)).mono ?_
          rintro e z3 ⟨rfl, hk⟩
          have Kz3 := Lib.hid (Kz2.out.then hk)
          clear hk
          go_wp2_with fail
          refine (quote_lit _).mono ?_
          rintro e z4 ⟨rfl, hk⟩
          have Kz4 := Lib.hid (Kz3.out.then hk)
          clear hk
          have hz : (⟨#[97, 92, 42, 92, 91, 92, 92, 93, 92, 63]⟩ : ByteArray).toList = [97, 92, 42, 92, 91, 92, 92, 93, 92, 63] := by rw [toList_data]
          go_wp2_with fail
          refine (wakes_any _).mono ?_
          rintro e z5 ⟨rfl, hk⟩
          have Kz5 := Lib.hid (Kz4.out.then hk)
          clear hk
          go_wp2
          go_ret
          exact ⟨rfl, Kz5.out⟩
        · obtain ⟨h1, h2, h3⟩ := hg
          have h4 := Lib.hid h3
          have HRG := Lib.hid hrg
          have HRG' := Lib.hid hrg'
          have HKN := Lib.hid hkn
          have HLT := Lib.hid hlt
          clear hrg hrg' hkn hlt hkr h3
          go_wp2_with fail
          refine (match_is _ p s false (by omega) (by omega) h4.out).mono ?_
          rintro e w1 ⟨rfl, hk⟩
          have K1 := Lib.hid (HKN.out.then hk)
          have HRQ := Lib.hid (HRG'.out.keeps hk)
          clear hk cn ce
          go_wp2
          go_roundw
          case rel => exact ⟨cnt', HRQ.out, K1.out⟩
          case measure => rw [HRQ.out.left, HRG.out.left]; exact HLT.out
    · obtain ⟨h1, h2, h3⟩ := hg
      have HRG := Lib.hid hrg
      have HRG' := Lib.hid hrg'
      have HKN := Lib.hid hkn
      have HLT := Lib.hid hlt
      clear hrg hrg' hkn hlt hkr
      rcases h3 with ⟨rfl, rfl⟩ | ⟨h3, h4⟩
      · have hz : (⟨#[91, 99, 45, 97, 93, 120, 91, 98, 93]⟩ : ByteArray).toList = [91, 99, 45, 97, 93, 120, 91, 98, 93] := by rw [toList_data]
        go_wp2_with fail
        refine (match_is _ ⟨#[91, 99, 45, 97, 93, 120, 91, 98, 93]⟩ ⟨#[91, 99, 45, 97, 93, 120, 91, 98, 93]⟩ false (by decide) (by decide) (by rw [mtch_eq]; decide +kernel)).mono ?_
        rintro e w1 ⟨rfl, hk⟩
        have K1 := Lib.hid (HKN.out.then hk)
        have HRQ := Lib.hid (HRG'.out.keeps hk)
        clear hk cn ce hz
        go_wp2_with fail
        refine (match_is _ ⟨#[91, 99, 45, 97, 93, 120, 91, 98, 93]⟩ ⟨#[97, 120, 98]⟩ false (by decide) (by decide) (by rw [mtch_eq]; decide +kernel)).mono ?_
        rintro e w2 ⟨rfl, hk⟩
        have K2 := Lib.hid (K1.out.then hk)
        have HRQ2 := Lib.hid (HRQ.out.keeps hk)
        clear hk
        go_wp2_with fail
        refine (match_is _ ⟨#[91, 99, 45, 97, 93, 120, 91, 98, 93]⟩ ⟨#[99, 120, 98]⟩ false (by decide) (by decide) (by rw [mtch_eq]; decide +kernel)).mono ?_
        rintro e w3 ⟨rfl, hk⟩
        have K3 := Lib.hid (K2.out.then hk)
        have HRQ3 := Lib.hid (HRQ2.out.keeps hk)
        clear hk
        go_wp2
        go_roundw
        case rel => exact ⟨cnt', HRQ3.out, K3.out⟩
        case measure => rw [HRQ3.out.left, HRG.out.left]; exact HLT.out
      · have h4 := Lib.hid h4
        go_wp2_with fail
        refine (match_is _ p s true (by omega) (by omega) h4.out).mono ?_
        rintro e w1 ⟨rfl, hk⟩
        have K1 := Lib.hid (HKN.out.then hk)
        have HRQ := Lib.hid (HRG'.out.keeps hk)
        clear hk cn ce
        go_wp2
        go_roundw
        case rel => exact ⟨cnt', HRQ.out, K1.out⟩
        case measure => rw [HRQ.out.left, HRG.out.left]; exact HLT.out
end Go.Proofs.Ytobnljndaabkaaa
