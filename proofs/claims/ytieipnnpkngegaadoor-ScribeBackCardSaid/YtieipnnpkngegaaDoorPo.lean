/- A slice of pieces that came in, opened. -/
import Derived.Test.YtieipnnpkngegaaDoorPc
import Derived.ProofKit
import Derived.Deep.Strs
namespace Go.Proofs.YtieipnnpkngegaaDoor
open Go.ChangeShapes Go.WideShapes Go.RowKit Go.Proofs.YtieipnnpkngegaaDoorW.PrintWords
instance : Inhabited Pce := ⟨⟨0, 0, ByteArray.empty⟩⟩
theorem cells35 : Tryd.prog.cellsOf 35 = 3 := by kernel_rfl
theorem cellsA : Tryd.prog.cellsOf 3 = 1 := by kernel_rfl
theorem cellsB : Tryd.prog.cellsOf 33 = 1 := by kernel_rfl
theorem cellsC : Tryd.prog.cellsOf 9 = 1 := by kernel_rfl
set_option maxRecDepth 100000 in
theorem rdp_of_trod {H : Type} {enc : TypeId × Value → H} {W : World} {fuel : Nat} {a : Option Addr} {len cap : Nat} {x : DataW H × List MemPlace}
    (h : DataW.trod enc Tryd.prog W 0 (fun _ => true) true fuel 27 [.slice a len cap] = some x) : ∃ l : List Pce, RdP W a len l ∧ ∀ p ∈ l, p.Ok := by
  rcases Go.Deep.open_slice Tryd.underlying27 h with ⟨hc, _⟩ | ⟨ad, len', cap', m, n, D, Pl, hc, _, hl, hm, rfl, _, hel⟩
  · simp at hc
    obtain ⟨rfl, rfl, rfl⟩ := hc
    exact ⟨[], ⟨rfl, by omega, fun h => absurd h (by omega)⟩, fun p hp => by cases hp⟩
  · simp at hc
    obtain ⟨rfl, rfl, rfl⟩ := hc
    unfold maxLen at hm
    have key : ∀ i, i < len → ∃ p : Pce, p.Ok ∧ ∀ j u, p.cs[j]? = some u → W.cell? (ad.add (i * 3 + j)) = some u := by
      intro i hi
      obtain ⟨cs', hcs, ht⟩ := hel i (by have h1 : (if (fun _ : Nat => true) ad.block = true then cap else len) = cap := if_pos rfl; omega)
      rw [cells35] at hcs
      obtain ⟨_, hlen, hcell⟩ := World.cells?_some hcs
      obtain ⟨y0, y1, y2, n', _, _, h0, h1, h2⟩ := Go.Deep.trod_struct3 Tryd.underlying35 ht
      match cs', hlen with
      | [c0, c1, c2], _ =>
        simp only [cellsA, cellsB, cellsC, List.drop_zero, List.drop_succ_cons, List.take_succ_cons, List.take_zero] at h0 h1 h2
        obtain ⟨n0, e0, _, w0⟩ := DataW.trod_int Tryd.underlying3 h0
        obtain ⟨n1, e1, _, w1⟩ := DataW.trod_int Tryd.underlying33 h1
        obtain ⟨s2, e2, _, w2⟩ := DataW.trod_string Tryd.underlying9 h2
        simp at e0 e1 e2
        subst e0 e1 e2
        have b0 : -9223372036854775808 ≤ n0 ∧ n0 ≤ 9223372036854775807 := by simpa [Lit.wf, IntKind.min, IntKind.max, IntKind.signed, IntKind.bits] using w0
        have b1 : 0 ≤ n1 ∧ n1 ≤ 18446744073709551615 := by simpa [Lit.wf, IntKind.min, IntKind.max, IntKind.signed, IntKind.bits] using w1
        unfold maxLen at w2
        refine ⟨⟨n0, n1.toNat, s2⟩, ⟨b0.1, b0.2, by show n1.toNat < _; omega, w2⟩, fun j u hu => ?_⟩
        have e : (Pce.mk n0 n1.toNat s2).cs = [.int .i64 n0, .int .u64 n1, .string s2] := by simp only [Pce.cs]; rw [Int.toNat_of_nonneg b1.1]
        rw [e] at hu
        rw [← Go.Deep.add_add]
        have hj : j < 3 := (List.getElem?_eq_some_iff.1 hu).1
        exact (hcell j hj).trans hu
    obtain ⟨f, hf⟩ := Go.Deep.choose_lt key
    refine ⟨(List.range len).map f, ⟨by simp, by omega, fun _ => ⟨ad, rfl, fun j p hj => ?_⟩⟩, fun p hp => ?_⟩
    · have hjl : j < len := by have := (List.getElem?_eq_some_iff.1 hj).1; simpa using this
      have he : f j = p := by simpa [List.getElem?_map, List.getElem?_range hjl] using hj
      subst he
      exact ⟨_, rfl, rfl, (hf j hjl).2⟩
    · simp only [List.mem_map, List.mem_range] at hp
      obtain ⟨i, hi, rfl⟩ := hp
      exact (hf i hi).1
end Go.Proofs.YtieipnnpkngegaaDoor
