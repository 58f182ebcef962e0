/- What wakes a law of frames; a frame told as the document's. -/
import Derived.Test.YtieipnnpkngegaaDoorFn
import Derived.Handy
namespace Go.Proofs.YtieipnnpkngegaaDoor
open Go.RowKit Go.Proofs.YtieipnnpkngegaaDoorW.PrintWords

theorem sig_ack : sigL ⟨4, 7, 1, 0, 5, 0, []⟩ = [4, 0, 0, 0, 7, 0, 0, 0, 1, 0, 0, 0, 0, 0, 0, 0, 5, 0, 0, 0, 0, 0, 0] := by decide
theorem may_ack : mayB ⟨4, 7, 1, 0, 5, 0, []⟩ = true := by decide
theorem ok_ack : Frm.Ok ⟨4, 7, 1, 0, 5, 0, []⟩ := ⟨by decide, by decide, by decide, by decide, by decide, by decide⟩
set_option maxRecDepth 100000 in
set_option maxHeartbeats 3200000 in
theorem tells_any (w : World) (hT : MayT w) : Calls Tryd.prog 48 #[] w fun e w' => e = .returned (.bool true) ∧ Keeps No w w' := by
  have HS := Lib.hid (show ∀ W, MayT W → Calls Tryd.prog 46 #[.agg #[.int .u8 4, .int .u32 7, .int .u32 1, .int .u32 0, .int .u32 5, .int .u32 0, .slice none 0 0]] W (CEnd W [4, 0, 0, 0, 7, 0, 0, 0, 1, 0, 0, 0, 0, 0, 0, 0, 5, 0, 0, 0, 0, 0, 0]) from fun W h => by
    have := signed_any W ⟨4, 7, 1, 0, 5, 0, []⟩ ok_ack none 0 (Rd.nil W) h
    rw [sig_ack] at this
    exact this)
  have HM := Lib.hid (show ∀ W, MayT W → Calls Tryd.prog 44 #[.agg #[.int .u8 4, .int .u32 7, .int .u32 1, .int .u32 0, .int .u32 5, .int .u32 0, .slice none 0 0]] W (fun e w' => e = .returned (.bool true) ∧ Keeps No W w') from fun W h => by
    have := may_any W ⟨4, 7, 1, 0, 5, 0, []⟩ ok_ack none 0 h
    rw [may_ack] at this
    exact this)
  have HT := Lib.hid hT
  clear hT
  go_enter Tryd.func48, Tryd.ntmps48
  go_wp2_with fail
  refine (HS.out _ (HT.out.keptNo ((Keeps.refl No w).alloc _))).mono ?_
  rintro e w1 ⟨r, rfl, h1⟩
  have hk := ((Keeps.refl No w).alloc (.cells #[.int .u8 4, .int .u32 7, .int .u32 1, .int .u32 0, .int .u32 5, .int .u32 0, .slice none 0 0] 68)).then h1.keeps
  have hb := h1.keeps.heap (heap_alloc_new w _) (fun h => h)
  have c0 : w1.cell? ⟨w.heap.size, 0, none⟩ = some (.int .u8 4) := by rw [blk_cell hb]; rfl
  have c1 : w1.cell? ⟨w.heap.size, 1, none⟩ = some (.int .u32 7) := by rw [blk_cell hb]; rfl
  have c2 : w1.cell? ⟨w.heap.size, 2, none⟩ = some (.int .u32 1) := by rw [blk_cell hb]; rfl
  have c3 : w1.cell? ⟨w.heap.size, 3, none⟩ = some (.int .u32 0) := by rw [blk_cell hb]; rfl
  have c4 : w1.cell? ⟨w.heap.size, 4, none⟩ = some (.int .u32 5) := by rw [blk_cell hb]; rfl
  have c5 : w1.cell? ⟨w.heap.size, 5, none⟩ = some (.int .u32 0) := by rw [blk_cell hb]; rfl
  have c6 : w1.cell? ⟨w.heap.size, 6, none⟩ = some (.slice none 0 0) := by rw [blk_cell hb]; rfl
  have HK := Lib.hid hk
  obtain ⟨A1, k1, rfl, _, hR1⟩ := h1.row.rd
  have hstr : (convert 22 9 (.slice A1 23 k1)).run Tryd.prog w1 = .ok (.string ⟨#[4, 0, 0, 0, 7, 0, 0, 0, 1, 0, 0, 0, 0, 0, 0, 0, 5, 0, 0, 0, 0, 0, 0]⟩) w1 := rd_string (P := Tryd.prog) Tryd.underlying22 Tryd.underlying5 Tryd.underlying9 hR1 k1
  clear h1 hb hk hR1
  go_wp2_with fail
  refine (HM.out _ (HT.out.keptNo HK.out)).mono ?_
  rintro e w2 ⟨rfl, h2⟩
  have K2 := Lib.hid (HK.out.then h2)
  clear h2 hstr
  go_wp2
  go_ret
  exact ⟨rfl, K2.out⟩
theorem of_any (w : World) (f : Frm) (hf : f.Ok) (A : Option Addr) (n c : Nat) :
    Calls Tryd.prog 41 #[.agg (f.cs (.slice A n c))] w fun e w' => e = .returned (.agg (f.rs (.slice A n c))) ∧ Keeps No w w' := by
  have hk := hf.kind
  obtain ⟨kind, ses, ep, num, ack, mask, pl⟩ := f
  simp only [Frm.cs, Frm.rs] at hk ⊢
  go_enter Tryd.func41, Tryd.ntmps41
  go_wp2
  go_returns
  exact ⟨rfl, ((Keeps.refl No w).alloc _).alloc _⟩
end Go.Proofs.YtieipnnpkngegaaDoor
