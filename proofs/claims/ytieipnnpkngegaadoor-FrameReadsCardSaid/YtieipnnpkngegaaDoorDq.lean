/- Decode: the document's; frames told alike. -/
import Derived.Test.YtieipnnpkngegaaDoorDp
import Derived.Test.YtieipnnpkngegaaDoorFq
import Derived.Test.YtieipnnpkngegaaDoorRg
import Derived.Handy
namespace Go.Proofs.YtieipnnpkngegaaDoor
open Go.RowKit Go.Proofs.YtieipnnpkngegaaDoorW.PrintWords

set_option maxRecDepth 100000 in
set_option maxHeartbeats 1600000 in
theorem refnum_any (w : World) (A : Option Addr) (n c : Nat) (l : List UInt8) (hR : Rd w A n l) (hn : n ≤ 8) :
    Calls Tryd.prog 70 #[.slice A n c] w fun e w' => e = .returned (.int .u64 (natBE l : Nat)) ∧ w = w' := by
  have HL := Lib.hid hR.len
  have HR := Lib.hid hR
  clear hR
  go_enter Tryd.func70, Tryd.ntmps70
  go_wp2
  go_loop [3, 4] (fun nv iv => ∃ k : Nat, k ≤ n ∧ iv = .int .i64 k ∧ nv = .int .u64 (natBE (l.take k) : Nat)) (fun _ iv => n - (intOf iv).toNat)
  case atStart => exact ⟨0, by omega, rfl, rfl⟩
  case round =>
    obtain ⟨k, hk, rfl, rfl⟩ := hrel
    by_cases hko : k < n
    · obtain ⟨ad, rfl, hc⟩ := HR.out.at k hko
      have hx := natBE_take l k (by omega)
      have hsn : natBE (l.take (k + 1)) = 256 * natBE (l.take k) + (l.getD k 0).toNat := by
        have hkl : k < l.length := by have := HL.out; omega
        rw [take_snoc l k hkl, natBE_snoc, List.getD_eq_getElem?_getD, List.getElem?_eq_getElem hkl]; rfl
      have HS := Lib.hid hsn
      clear hsn
      generalize natBE (l.take k) = x at *
      generalize l.getD k 0 = b at *
      have hb := b.toNat_lt
      go_wp2
      go_round
      case rel => exact ⟨k + 1, by omega, by go_num, congrArg (Value.int .u64) (by rw [HS.out]; omega)⟩
      case measure => simp [intOf]; omega
    · have ht : l.take k = l := List.take_of_length_le (by have := HL.out; omega)
      have HT := Lib.hid ht
      clear ht
      go_wp2
      go_ret
      exact ⟨by rw [HT.out]; rfl, rfl⟩
set_option linter.unusedSimpArgs false in
set_option maxRecDepth 100000 in
set_option maxHeartbeats 3200000 in
theorem rsame_any (w : World) (f : Frm) (A A' : Option Addr) (c c' : Nat) (hR : Rd w A f.pl.length f.pl) (hR' : Rd w A' f.pl.length f.pl) :
    Calls Tryd.prog 54 #[.agg (f.rs (.slice A f.pl.length c)), .agg (f.rs (.slice A' f.pl.length c'))] w fun e w' => e = .returned (.bool true) ∧ Keeps No w w' := by
  have HR := Lib.hid hR
  have HR' := Lib.hid hR'
  clear hR hR'
  obtain ⟨kind, ses, ep, num, ack, mask, pl⟩ := f
  simp only [Frm.rs] at *
  go_enter Tryd.func54, Tryd.ntmps54
  have K1 := Lib.hid (((Keeps.refl No w).alloc (.cells #[.int .i64 kind, .int .u32 ses, .int .u32 ep, .int .u32 num, .int .u32 ack, .int .u32 mask, .slice A pl.length c] 70)).alloc (.cells #[.int .i64 kind, .int .u32 ses, .int .u32 ep, .int .u32 num, .int .u32 ack, .int .u32 mask, .slice A' pl.length c'] 70))
  have hb1 := heap_alloc_new w (.cells #[.int .i64 kind, .int .u32 ses, .int .u32 ep, .int .u32 num, .int .u32 ack, .int .u32 mask, .slice A pl.length c] 70)
  have sz1 : (w.alloc (.cells #[.int .i64 kind, .int .u32 ses, .int .u32 ep, .int .u32 num, .int .u32 ack, .int .u32 mask, .slice A pl.length c] 70)).heap.size = w.heap.size + 1 := by simp
  go_wp2_with fail
  generalize w.alloc (.cells #[.int .i64 kind, .int .u32 ses, .int .u32 ep, .int .u32 num, .int .u32 ack, .int .u32 mask, .slice A pl.length c] 70) = wa at *
  have hb2 := heap_alloc_new wa (.cells #[.int .i64 kind, .int .u32 ses, .int .u32 ep, .int .u32 num, .int .u32 ack, .int .u32 mask, .slice A' pl.length c'] 70)
  have hb1' := ((Keeps.refl No wa).alloc (.cells #[.int .i64 kind, .int .u32 ses, .int .u32 ep, .int .u32 num, .int .u32 ack, .int .u32 mask, .slice A' pl.length c'] 70)).heap hb1 (fun h => h)
  rw [sz1] at hb2
  generalize wa.alloc (.cells #[.int .i64 kind, .int .u32 ses, .int .u32 ep, .int .u32 num, .int .u32 ack, .int .u32 mask, .slice A' pl.length c'] 70) = wb at *
  have HB1 := Lib.hid hb1'
  have HB2 := Lib.hid hb2
  clear hb1 hb1' hb2
  have af0 : wb.cell? ⟨w.heap.size, 0, none⟩ = some (.int .i64 kind) := by rw [blk_cell HB1.out]; rfl
  have af1 : wb.cell? ⟨w.heap.size, 1, none⟩ = some (.int .u32 ses) := by rw [blk_cell HB1.out]; rfl
  have af2 : wb.cell? ⟨w.heap.size, 2, none⟩ = some (.int .u32 ep) := by rw [blk_cell HB1.out]; rfl
  have af3 : wb.cell? ⟨w.heap.size, 3, none⟩ = some (.int .u32 num) := by rw [blk_cell HB1.out]; rfl
  have af4 : wb.cell? ⟨w.heap.size, 4, none⟩ = some (.int .u32 ack) := by rw [blk_cell HB1.out]; rfl
  have af5 : wb.cell? ⟨w.heap.size, 5, none⟩ = some (.int .u32 mask) := by rw [blk_cell HB1.out]; rfl
  have af6 : wb.cell? ⟨w.heap.size, 6, none⟩ = some (.slice A pl.length c) := by rw [blk_cell HB1.out]; rfl
  have ar0 : wb.cell? ⟨w.heap.size + 1, 0, none⟩ = some (.int .i64 kind) := by rw [blk_cell HB2.out]; rfl
  have ar1 : wb.cell? ⟨w.heap.size + 1, 1, none⟩ = some (.int .u32 ses) := by rw [blk_cell HB2.out]; rfl
  have ar2 : wb.cell? ⟨w.heap.size + 1, 2, none⟩ = some (.int .u32 ep) := by rw [blk_cell HB2.out]; rfl
  have ar3 : wb.cell? ⟨w.heap.size + 1, 3, none⟩ = some (.int .u32 num) := by rw [blk_cell HB2.out]; rfl
  have ar4 : wb.cell? ⟨w.heap.size + 1, 4, none⟩ = some (.int .u32 ack) := by rw [blk_cell HB2.out]; rfl
  have ar5 : wb.cell? ⟨w.heap.size + 1, 5, none⟩ = some (.int .u32 mask) := by rw [blk_cell HB2.out]; rfl
  have ar6 : wb.cell? ⟨w.heap.size + 1, 6, none⟩ = some (.slice A' pl.length c') := by rw [blk_cell HB2.out]; rfl
  have cq : (convert 22 9 (.slice A pl.length c)).run Tryd.prog wb = .ok (.string ⟨pl.toArray⟩) wb := rd_string Tryd.underlying22 Tryd.underlying5 Tryd.underlying9 (K1.out.rdNo HR.out) c
  have cr : (convert 22 9 (.slice A' pl.length c')).run Tryd.prog wb = .ok (.string ⟨pl.toArray⟩) wb := rd_string Tryd.underlying22 Tryd.underlying5 Tryd.underlying9 (K1.out.rdNo HR'.out) c'
  go_wp2
  rw [cq]
  go_wp2
  go_ret
  exact ⟨rfl, K1.out⟩
end Go.Proofs.YtieipnnpkngegaaDoor
