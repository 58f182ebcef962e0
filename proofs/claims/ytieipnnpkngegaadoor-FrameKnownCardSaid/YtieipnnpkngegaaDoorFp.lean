/- A frame that came in by value, opened; what the row's list gives; the heap that the door leaves. -/
import Derived.Test.YtieipnnpkngegaaDoorMl
import Derived.Test.YtieipnnpkngegaaDoorLt
import Derived.ProofKit
import Derived.Lib.SmallJoins
import Derived.OpenShut
namespace Go.Proofs.YtieipnnpkngegaaDoor
open Go.Joins Go.ChangeShapes Go.WideShapes Go.RowKit Go.Deep Go.Proofs.YtieipnnpkngegaaDoorW.PrintWords
section
variable {H : Type} {enc : TypeId × Value → H} {P : Program} {w : World} {base : Nat} {spare : Nat → Bool} {held : Bool}
theorem open_agg7 {r : Reach} {b0 : Nat} {t : TypeId} {f0 f1 f2 f3 f4 f5 f6 : Field} {v : Value} {d : DataW H} {p : List MemPlace} (hs : P.underlying t = some (.struct #[f0, f1, f2, f3, f4, f5, f6])) (hone : oneCellFields P #[f0, f1, f2, f3, f4, f5, f6] = true) (hC : P.cellsOf t = 7)
    (hv : Value.okWide P w r b0 t v) (h : DataW.Trod enc P w base spare held t v d p) :
    ∃ (v0 v1 v2 v3 v4 v5 v6 : Value) (y0 y1 y2 y3 y4 y5 y6 : DataW H × List MemPlace) (n : Nat), v = .agg #[v0, v1, v2, v3, v4, v5, v6] ∧ d = .agg [y0.1, y1.1, y2.1, y3.1, y4.1, y5.1, y6.1] ∧
      DataW.trod enc P w base spare held n f0.type [v0] = some y0 ∧ DataW.trod enc P w base spare held n f1.type [v1] = some y1 ∧ DataW.trod enc P w base spare held n f2.type [v2] = some y2 ∧ DataW.trod enc P w base spare held n f3.type [v3] = some y3 ∧ DataW.trod enc P w base spare held n f4.type [v4] = some y4 ∧ DataW.trod enc P w base spare held n f5.type [v5] = some y5 ∧ DataW.trod enc P w base spare held n f6.type [v6] = some y6 := by
  obtain ⟨cs, rfl, hsz⟩ := okWide_struct hs hv
  obtain ⟨l⟩ := cs
  match l, hsz.trans hC with
  | [c0, c1, c2, c3, c4, c5, c6], _ =>
    obtain ⟨fuel, hf⟩ := h
    obtain ⟨xs, n, _, hx, _, hlen, hg⟩ := DataW.trod_struct hs hf
    obtain ⟨o0, k0⟩ := hone_of hone 0 f0 rfl
    obtain ⟨o1, k1⟩ := hone_of hone 1 f1 rfl
    obtain ⟨o2, k2⟩ := hone_of hone 2 f2 rfl
    obtain ⟨o3, k3⟩ := hone_of hone 3 f3 rfl
    obtain ⟨o4, k4⟩ := hone_of hone 4 f4 rfl
    obtain ⟨o5, k5⟩ := hone_of hone 5 f5 rfl
    obtain ⟨o6, k6⟩ := hone_of hone 6 f6 rfl
    match xs, hlen with
    | [y0, y1, y2, y3, y4, y5, y6], _ =>
      simp only [Prod.mk.injEq] at hx
      exact ⟨c0, c1, c2, c3, c4, c5, c6, y0, y1, y2, y3, y4, y5, y6, n, rfl, by simpa using hx.1, by simpa [Value.cells, o0, k0] using hg 0 f0 rfl, by simpa [Value.cells, o1, k1] using hg 1 f1 rfl, by simpa [Value.cells, o2, k2] using hg 2 f2 rfl, by simpa [Value.cells, o3, k3] using hg 3 f3 rfl, by simpa [Value.cells, o4, k4] using hg 4 f4 rfl, by simpa [Value.cells, o5, k5] using hg 5 f5 rfl, by simpa [Value.cells, o6, k6] using hg 6 f6 rfl⟩
end
theorem cells68 : Tryd.prog.cellsOf 68 = 7 := by kernel_rfl
set_option maxRecDepth 100000 in
theorem frm_open {H : Type} {enc : TypeId × Value → H} {W : World} {r : Reach} {b0 : Nat} {v : Value} {d : DataW H} {p : List MemPlace} (hv : Value.okWide Tryd.prog W r b0 68 v)
    (h : DataW.Trod enc Tryd.prog W 0 (fun _ => true) true 68 v d p) :
    ∃ (f : Frm) (A : Option Addr) (c : Nat), v = .agg (f.cs (.slice A f.pl.length c)) ∧ f.Ok ∧ Rd W A f.pl.length f.pl ∧ f.pl.length ≤ c ∧ c ≤ 9223372036854775807 := by
  obtain ⟨v0, v1, v2, v3, v4, v5, v6, y0, y1, y2, y3, y4, y5, y6, n, rfl, _, h0, h1, h2, h3, h4, h5, h6⟩ := open_agg7 Tryd.underlying68 (by kernel_rfl) cells68 hv h
  obtain ⟨n0, e0, _, w0⟩ := DataW.trod_int Tryd.underlying5 h0
  obtain ⟨n1, e1, _, w1⟩ := DataW.trod_int Tryd.underlying23 h1
  obtain ⟨n2, e2, _, w2⟩ := DataW.trod_int Tryd.underlying23 h2
  obtain ⟨n3, e3, _, w3⟩ := DataW.trod_int Tryd.underlying23 h3
  obtain ⟨n4, e4, _, w4⟩ := DataW.trod_int Tryd.underlying23 h4
  obtain ⟨n5, e5, _, w5⟩ := DataW.trod_int Tryd.underlying23 h5
  simp only [List.cons.injEq, and_true] at e0 e1 e2 e3 e4 e5
  subst e0 e1 e2 e3 e4 e5
  have b0 : 0 ≤ n0 ∧ n0 ≤ 255 := by simpa [Lit.wf, IntKind.min, IntKind.max, IntKind.signed, IntKind.bits] using w0
  have b1 : 0 ≤ n1 ∧ n1 ≤ 4294967295 := by simpa [Lit.wf, IntKind.min, IntKind.max, IntKind.signed, IntKind.bits] using w1
  have b2 : 0 ≤ n2 ∧ n2 ≤ 4294967295 := by simpa [Lit.wf, IntKind.min, IntKind.max, IntKind.signed, IntKind.bits] using w2
  have b3 : 0 ≤ n3 ∧ n3 ≤ 4294967295 := by simpa [Lit.wf, IntKind.min, IntKind.max, IntKind.signed, IntKind.bits] using w3
  have b4 : 0 ≤ n4 ∧ n4 ≤ 4294967295 := by simpa [Lit.wf, IntKind.min, IntKind.max, IntKind.signed, IntKind.bits] using w4
  have b5 : 0 ≤ n5 ∧ n5 ≤ 4294967295 := by simpa [Lit.wf, IntKind.min, IntKind.max, IntKind.signed, IntKind.bits] using w5
  have hsl : ∃ A c, ∃ l : List UInt8, v6 = .slice A l.length c ∧ Rd W A l.length l ∧ l.length ≤ c ∧ c ≤ 9223372036854775807 := by
    rcases open_ints Tryd.underlying22 Tryd.underlying5 (by kernel_rfl) h6 with ⟨hcs, _⟩ | ⟨x, l, c, zs, hcs, _, hl, hm, hz, _, hcell, hwz⟩
    · simp at hcs
      subst hcs
      exact ⟨none, 0, [], rfl, Rd.nil _, by simp, by simp⟩
    · simp at hcs
      subst hcs
      obtain ⟨m, hR, h1, h2⟩ := rd_of_row (len := l) (.inr ⟨_, rfl, hl, hm, by simpa using hz, hcell, hwz⟩)
      have hml := hR.len
      subst hml
      exact ⟨_, c, m, rfl, hR, h1, h2⟩
  obtain ⟨A, c, l, rfl, hR, hc, hcm⟩ := hsl
  refine ⟨⟨n0.toNat, n1.toNat, n2.toNat, n3.toNat, n4.toNat, n5.toNat, l⟩, A, c, ?_, ⟨?_, ?_, ?_, ?_, ?_, ?_⟩, hR, hc, hcm⟩
  · simp only [Frm.cs]
    rw [Int.toNat_of_nonneg b0.1, Int.toNat_of_nonneg b1.1, Int.toNat_of_nonneg b2.1, Int.toNat_of_nonneg b3.1, Int.toNat_of_nonneg b4.1, Int.toNat_of_nonneg b5.1]
  all_goals (simp only; omega)
theorem tabb_of_laidH {W : World} (h : laidMetH Tryd.prog [("longwire/scribe.table", Rows.laid_longwire_scribe_table), ("longwire/frame.may", Rows.laid_longwire_frame_may)] W) : Tabb W := by
  unfold laidMetH at h
  rw [show (([("longwire/scribe.table", Rows.laid_longwire_scribe_table), ("longwire/frame.may", Rows.laid_longwire_frame_may)] : List (String × DataW Unit)).filter fun x => x.2.handleName?.isSome) = [("longwire/frame.may", Rows.laid_longwire_frame_may)] from by kernel_rfl,
    show (([("longwire/scribe.table", Rows.laid_longwire_scribe_table), ("longwire/frame.may", Rows.laid_longwire_frame_may)] : List (String × DataW Unit)).filter fun x => x.2.handleName?.isNone) = [("longwire/scribe.table", Rows.laid_longwire_scribe_table)] from by kernel_rfl] at h
  exact tabb_of_laid h.1
theorem mayt_of_laidH {W : World} (h : laidMetH Tryd.prog [("longwire/scribe.table", Rows.laid_longwire_scribe_table), ("longwire/frame.may", Rows.laid_longwire_frame_may)] W) : MayT W := mayt_of_laid h (by simp)
end Go.Proofs.YtieipnnpkngegaaDoor
