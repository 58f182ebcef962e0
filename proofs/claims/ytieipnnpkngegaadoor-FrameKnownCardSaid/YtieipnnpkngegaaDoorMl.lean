/- What the row's list gives: the table of functions. -/
import Derived.Test.YtieipnnpkngegaaDoorRows
import Derived.Test.YtieipnnpkngegaaDoorFr
import Derived.LaidMore
import Derived.LaidHandle
namespace Go.ChangeShapes
variable {H : Type} {enc : TypeId × Value → H} {P : Program} {w : World} {base : Nat} {spare : Nat → Bool} {held : Bool}
theorem trod_array6 {t e : TypeId} {fuel : Nat} {c0 c1 c2 c3 c4 c5 : Value} {x : DataW H × List MemPlace} (ht : P.underlying t = some (.array 6 e)) (hce : P.cellsOf e = 1)
    (h : DataW.trod enc P w base spare held fuel t [c0, c1, c2, c3, c4, c5] = some x) :
    ∃ y0 y1 y2 y3 y4 y5 n, x.1 = .agg [y0.1, y1.1, y2.1, y3.1, y4.1, y5.1] ∧ DataW.trod enc P w base spare held n e [c0] = some y0 ∧ DataW.trod enc P w base spare held n e [c1] = some y1 ∧ DataW.trod enc P w base spare held n e [c2] = some y2 ∧
      DataW.trod enc P w base spare held n e [c3] = some y3 ∧ DataW.trod enc P w base spare held n e [c4] = some y4 ∧ DataW.trod enc P w base spare held n e [c5] = some y5 := by
  cases fuel with
  | zero => simp [DataW.trod] at h
  | succ n =>
    unfold DataW.trod at h
    rw [ht] at h
    have r6 : List.range 6 = [0, 1, 2, 3, 4, 5] := rfl
    simp [r6, hce] at h
    obtain ⟨_, h⟩ := h
    cases h0 : DataW.trod enc P w base spare held n e [c0] with
    | none => simp [h0] at h
    | some y0 =>
      cases h1 : DataW.trod enc P w base spare held n e [c1] with
      | none => simp [h0, h1] at h
      | some y1 =>
        cases h2 : DataW.trod enc P w base spare held n e [c2] with
        | none => simp [h0, h1, h2] at h
        | some y2 =>
          cases h3 : DataW.trod enc P w base spare held n e [c3] with
          | none => simp [h0, h1, h2, h3] at h
          | some y3 =>
            cases h4 : DataW.trod enc P w base spare held n e [c4] with
            | none => simp [h0, h1, h2, h3, h4] at h
            | some y4 =>
              cases h5 : DataW.trod enc P w base spare held n e [c5] with
              | none => simp [h0, h1, h2, h3, h4, h5] at h
              | some y5 =>
                simp [h0, h1, h2, h3, h4, h5] at h
                exact ⟨y0, y1, y2, y3, y4, y5, n, by rw [← h], h0, h1, h2, h3, h4, h5⟩
theorem trod_array_len {t e : TypeId} {k : Nat} {fuel : Nat} {cs : List Value} {x : DataW H × List MemPlace} (ht : P.underlying t = some (.array k e))
    (h : DataW.trod enc P w base spare held fuel t cs = some x) : cs.length = P.cellsOf t := by
  cases fuel with
  | zero => simp [DataW.trod] at h
  | succ n =>
    unfold DataW.trod at h
    rw [ht] at h
    simp at h
    exact h.1
end Go.ChangeShapes
namespace Go.Proofs.YtieipnnpkngegaaDoor
open Go.RowKit Go.ChangeShapes
theorem gMay : Tryd.prog.globalNamed "longwire/frame.may" = some 0 := by kernel_rfl
theorem gMayType : (Tryd.prog.globals[0]?).map (·.type) = some 110 := by kernel_rfl
theorem cells109 : Tryd.prog.cellsOf 109 = 1 := by kernel_rfl
theorem cells110 : Tryd.prog.cellsOf 110 = 6 := by kernel_rfl
theorem mayt_of_laid {W : World} {l : List (String × DataW Unit)} (h : laidMetH Tryd.prog l W) (hm : ("longwire/frame.may", Rows.laid_longwire_frame_may) ∈ l) : MayT W := by
  obtain ⟨g, t, cs, fuel, p, hg, ht, hv, hd⟩ := h.funcs (show (_, DataW.iface "func table" _) ∈ l from hm)
  obtain rfl := Option.some.inj (gMay.symm.trans hg)
  obtain rfl := Option.some.inj (gMayType.symm.trans ht)
  have hd' : DataW.trod (funcToken Tryd.prog) Tryd.prog W 0 (fun _ => true) true fuel 110 cs.toList = some (.agg [.nil, .held [108, 111, 110, 103, 119, 105, 114, 101, 47, 102, 114, 97, 109, 101, 46, 98, 97, 114, 101], .held [108, 111, 110, 103, 119, 105, 114, 101, 47, 102, 114, 97, 109, 101, 46, 98, 97, 114, 101], .held [108, 111, 110, 103, 119, 105, 114, 101, 47, 102, 114, 97, 109, 101, 46, 109, 97, 121, 36, 49], .held [108, 111, 110, 103, 119, 105, 114, 101, 47, 102, 114, 97, 109, 101, 46, 109, 97, 121, 36, 50], .held [108, 111, 110, 103, 119, 105, 114, 101, 47, 102, 114, 97, 109, 101, 46, 98, 97, 114, 101]], p) := hd
  have hcell := World.var?_cell hg hv
  have hl := trod_array_len Tryd.underlying110 hd'
  rw [cells110] at hl
  have e : ∃ c0 c1 c2 c3 c4 c5, cs = #[c0, c1, c2, c3, c4, c5] := by
    match h : cs.toList, hl with
    | [c0, c1, c2, c3, c4, c5], _ => exact ⟨c0, c1, c2, c3, c4, c5, Array.toList_inj.1 h⟩
  obtain ⟨c0, c1, c2, c3, c4, c5, e⟩ := e
  subst e
  obtain ⟨y0, y1, y2, y3, y4, y5, n, hx, _, h1, h2, h3, h4, h5⟩ := trod_array6 Tryd.underlying110 cells109 hd'
  have hx2 := (DataW.agg.inj hx)
  simp only [List.cons.injEq] at hx2
  obtain ⟨_, e1, e2, e3, e4, e5, _⟩ := hx2
  have f1 : c1 = .func (.func 95) #[] #[] := func_of_trod (f0 := 95) (q := y1.2) Tryd.underlying109 (by kernel_rfl) (h1.trans (congrArg some (Prod.ext e1.symm rfl)))
  have f2 : c2 = .func (.func 95) #[] #[] := func_of_trod (f0 := 95) (q := y2.2) Tryd.underlying109 (by kernel_rfl) (h2.trans (congrArg some (Prod.ext e2.symm rfl)))
  have f3 : c3 = .func (.func 96) #[] #[] := func_of_trod (f0 := 96) (q := y3.2) Tryd.underlying109 (by kernel_rfl) (h3.trans (congrArg some (Prod.ext e3.symm rfl)))
  have f4 : c4 = .func (.func 97) #[] #[] := func_of_trod (f0 := 97) (q := y4.2) Tryd.underlying109 (by kernel_rfl) (h4.trans (congrArg some (Prod.ext e4.symm rfl)))
  have f5 : c5 = .func (.func 95) #[] #[] := func_of_trod (f0 := 95) (q := y5.2) Tryd.underlying109 (by kernel_rfl) (h5.trans (congrArg some (Prod.ext e5.symm rfl)))
  subst f1 f2 f3 f4 f5
  exact ⟨hcell 1, hcell 2, hcell 3, hcell 4, hcell 5⟩
end Go.Proofs.YtieipnnpkngegaaDoor
