/- Which frames may be, as the document tells; a frame laid. -/
import Derived.Test.YtieipnnpkngegaaDoorFr
namespace Go.Proofs.YtieipnnpkngegaaDoor
open Go.RowKit Go.Proofs.YtieipnnpkngegaaDoorW.PrintWords
set_option linter.unusedSimpArgs false

theorem mayB_iff (f : Frm) : mayB f = true ↔ f.pl.length ≤ 256 ∧ ((f.kind = 1 ∨ f.kind = 2 ∨ f.kind = 5) ∧ f.num = 0 ∧ f.ack = 0 ∧ f.mask = 0 ∨ f.kind = 3 ∧ f.num < 2147483648 ∨ f.kind = 4 ∧ f.num = 0 ∧ f.pl.length = 0) := by
  unfold mayB bareB
  by_cases h1 : f.kind = 1 ∨ f.kind = 2 ∨ f.kind = 5
  · simp only [if_pos h1, Bool.and_eq_true, decide_eq_true_eq]; omega
  · by_cases h3 : f.kind = 3
    · simp only [if_neg h1, if_pos h3, Bool.and_eq_true, decide_eq_true_eq]; omega
    · by_cases h4 : f.kind = 4
      · simp only [if_neg h1, if_neg h3, if_pos h4, Bool.and_eq_true, decide_eq_true_eq]; omega
      · simp only [if_neg h1, if_neg h3, if_neg h4, Bool.and_false, Bool.false_eq_true, false_iff]; omega
set_option maxRecDepth 100000 in
set_option maxHeartbeats 3200000 in
theorem refmay_any (w : World) (f : Frm) (A : Option Addr) (c : Nat) :
    Calls Tryd.prog 45 #[.agg (f.rs (.slice A f.pl.length c))] w fun e w' => e = .returned (.bool (mayB f)) ∧ Keeps No w w' := by
  obtain ⟨kind, ses, ep, num, ack, mask, pl⟩ := f
  generalize hv : mayB ⟨kind, ses, ep, num, ack, mask, pl⟩ = bv
  have HV := Lib.hid hv
  clear hv
  simp only [Frm.rs]
  have HN := Lib.hid (show ∃ n, n = pl.length from ⟨_, rfl⟩)
  obtain ⟨n, hn⟩ := HN.out
  rw [← hn]
  have HN := Lib.hid hn
  clear hn
  go_enter Tryd.func45, Tryd.ntmps45
  go_wp2
  all_goals
    go_ret
    refine ⟨ret_eq (congrArg Value.bool ?_), (Keeps.refl No w).alloc _⟩
    rw [← HV.out]
    rw [Bool.eq_iff_iff, mayB_iff]
    simp only []
    rw [← HN.out]
    clear HV HN
    simp only [beq_iff_eq, beq_eq_false_iff_ne, ne_eq, decide_eq_true_eq, Bool.false_eq_true, true_iff, false_iff] at *
    omega
theorem run_idx5 (a0 a1 a2 a3 a4 : Nat) (W : World) (j : Nat) (hj : j < 5) : (Instr.index 120 (.agg #[.int .u32 a0, .int .u32 a1, .int .u32 a2, .int .u32 a3, .int .u32 a4]) (.int .i64 j)).run Tryd.prog W = .ok (.int .u32 (([a0, a1, a2, a3, a4].getD j 0 : Nat))) W := by
  rcases (show j = 0 ∨ j = 1 ∨ j = 2 ∨ j = 3 ∨ j = 4 by omega) with rfl | rfl | rfl | rfl | rfl <;>
  simp [Instr.index, run_underlying Tryd.underlying120, asIntOf, go_sem]
/-- A frame's first bytes: its kind, and so many of its numbers. -/
def preL (f : Frm) (k : Nat) : List UInt8 := [UInt8.ofNat f.kind] ++ ([f.ses, f.ep, f.num, f.ack, f.mask].take k).flatMap be4
theorem preL_len (f : Frm) (k : Nat) : (preL f k).length ≤ 21 := by
  unfold preL
  rw [List.length_append]
  have : ∀ l : List Nat, (l.flatMap be4).length = 4 * l.length := by
    intro l
    induction l with
    | nil => rfl
    | cons a l ih => rw [List.flatMap_cons, List.length_append, ih, be4_len, List.length_cons]; omega
  rw [this, List.length_take]
  simp
  omega
/-- A frame's bytes as they are signed. -/
def layL (f : Frm) : List UInt8 := [UInt8.ofNat f.kind] ++ be4 f.ses ++ be4 f.ep ++ be4 f.num ++ be4 f.ack ++ be4 f.mask ++ be2 f.pl.length ++ f.pl
set_option maxRecDepth 100000 in
set_option maxHeartbeats 3200000 in
theorem flay_any (w : World) (f : Frm) (hf : f.Ok) (A : Option Addr) (c : Nat) (hR : Rd w A f.pl.length f.pl) (hl : f.pl.length ≤ 256) :
    Calls Tryd.prog 69 #[.agg (f.cs (.slice A f.pl.length c))] w fun e w' => ∃ g v, e = .returned (.pointer (some ⟨g, 0, none⟩)) ∧ IsW w' w.heap.size g v (layL f) 0 ∧ Keeps No w w' := by
  obtain ⟨kind, ses, ep, num, ack, mask, pl⟩ := f
  simp only [Frm.cs]
  have HR := Lib.hid hR
  have HF := Lib.hid hf
  have HL := Lib.hid (show layL ⟨kind, ses, ep, num, ack, mask, pl⟩ = [UInt8.ofNat kind] ++ be4 ses ++ be4 ep ++ be4 num ++ be4 ack ++ be4 mask ++ be2 pl.length ++ pl from rfl)
  clear hR hf
  have hkk := HF.out.kind
  simp only at hkk
  go_enter Tryd.func69, Tryd.ntmps69
  go_wp2_with fail
  have hnew := heap_alloc_new w (.cells #[.int .u8 kind, .int .u32 ses, .int .u32 ep, .int .u32 num, .int .u32 ack, .int .u32 mask, .slice A pl.length c] 68)
  have ha := (Keeps.refl No w).alloc (.cells #[.int .u8 kind, .int .u32 ses, .int .u32 ep, .int .u32 num, .int .u32 ack, .int .u32 mask, .slice A pl.length c] 68)
  have sa : (w.alloc (.cells #[.int .u8 kind, .int .u32 ses, .int .u32 ep, .int .u32 num, .int .u32 ack, .int .u32 mask, .slice A pl.length c] 68)).heap.size = w.heap.size + 1 := by simp
  generalize w.alloc (.cells #[.int .u8 kind, .int .u32 ses, .int .u32 ep, .int .u32 num, .int .u32 ack, .int .u32 mask, .slice A pl.length c] 68) = wa at *
  have hW := isW_new wa wa.heap.size (Nat.le_refl _)
  rw [sa] at hW
  have sb : (wa.alloc (.cells #[.slice none 0 0, .int .i64 0] 30)).heap.size = w.heap.size + 1 + 1 := by simp [sa]
  have hb := (Keeps.refl No wa).alloc (.cells #[.slice none 0 0, .int .i64 0] 30)
  generalize wa.alloc (.cells #[.slice none 0 0, .int .i64 0] 30) = wb at *
  rw [← sb]
  refine (wbyte_ok _ (w.heap.size + 1) (w.heap.size + 1) (.slice none 0 0) [] [UInt8.ofNat kind] _ _ _ (hW.alloc _) (rd_lit1 wb _ (UInt8.ofNat kind) (by simp; omega)) (by simp; omega) (by simp)).mono ?_
  rintro e w1 ⟨rfl, v1, h1⟩
  have KA := Lib.hid (ha.then hb)
  have H1 := Lib.hid (h1.before ((Keeps.refl No wb).alloc _))
  have hF1 := H1.out.keeps.heap (hb.heap hnew (fun h => h)) (by rintro (e | e); omega; cases e)
  rw [List.nil_append] at h1
  have s1 := H1.out.keeps.size
  clear h1 ha hb hnew
  have KF := Lib.hid (show Keeps No w w1 from WPost.outer KA.out hW H1.out (by omega))
  have HI := Lib.hid H1.out.is
  have HB := Lib.hid hF1
  have d1 : w1.cell? ⟨w.heap.size, 1, none⟩ = some (.int .u32 ses) := by rw [blk_cell hF1]; rfl
  have d2 : w1.cell? ⟨w.heap.size, 2, none⟩ = some (.int .u32 ep) := by rw [blk_cell hF1]; rfl
  have d3 : w1.cell? ⟨w.heap.size, 3, none⟩ = some (.int .u32 num) := by rw [blk_cell hF1]; rfl
  have d4 : w1.cell? ⟨w.heap.size, 4, none⟩ = some (.int .u32 ack) := by rw [blk_cell hF1]; rfl
  have d5 : w1.cell? ⟨w.heap.size, 5, none⟩ = some (.int .u32 mask) := by rw [blk_cell hF1]; rfl
  have d6 : w1.cell? ⟨w.heap.size, 6, none⟩ = some (.slice A pl.length c) := by rw [blk_cell hF1]; rfl
  clear hF1 hW H1
  have HPL := Lib.hid (fun k => preL_len ⟨kind, ses, ep, num, ack, mask, pl⟩ k)
  go_wp2
  go_loopw [23] (fun iv wr => ∃ (k : Nat) (v : Value), k ≤ 5 ∧ iv = .int .i64 k ∧ IsW wr (w.heap.size + 1) (w.heap.size + 1) v (preL ⟨kind, ses, ep, num, ack, mask, pl⟩ k) 0 ∧ Keeps No w wr ∧ wr.heap[w.heap.size]? = w1.heap[w.heap.size]?) (fun iv _ => 5 - (intOf iv).toNat)
  case atStart => exact ⟨0, v1, by omega, rfl, HI.out, KF.out, rfl⟩
  case round =>
    obtain ⟨k, v, hk, rfl, hw, hkr, hfr⟩ := hrel
    have HW := Lib.hid hw
    have HKR := Lib.hid hkr
    have HFR := Lib.hid hfr
    have hsz := hw.lt
    have hpl := HPL.out k
    clear hw hkr hfr
    rcases (show k = 0 ∨ k = 1 ∨ k = 2 ∨ k = 3 ∨ k = 4 ∨ k = 5 by omega) with rfl | rfl | rfl | rfl | rfl | rfl
    · have hn := HF.out.ses
      simp only at hn
      have hi : ∀ W : World, (Instr.index 120 (.agg #[.int .u32 ses, .int .u32 ep, .int .u32 num, .int .u32 ack, .int .u32 mask]) (.int .i64 0)).run Tryd.prog W = .ok (.int .u32 ses) W := fun W => run_idx5 ses ep num ack mask W 0 (by omega)
      go_wp2_with fail
      refine (wfour_ok _ _ _ v _ (ses : Int) (by omega) (by omega) HW.out (by omega) (by omega)).mono ?_
      rintro e w2 ⟨rfl, v2, h2⟩
      have K2 := Lib.hid (WPost.outer HKR.out HW.out h2 (by omega))
      have H2 := Lib.hid h2.is
      have B2 := Lib.hid (h2.keeps.block w.heap.size (by omega) (by rintro (e | e); omega; exact absurd (own_base HW.out.row _ e) (by omega)))
      clear h2
      go_wp2
      go_roundw
      case rel => exact ⟨1, v2, by omega, by go_num, by have h := H2.out; simpa [preL] using h, K2.out, B2.out.trans HFR.out⟩
      case measure => simp [intOf]
    · have hn := HF.out.ep
      simp only at hn
      have hi : ∀ W : World, (Instr.index 120 (.agg #[.int .u32 ses, .int .u32 ep, .int .u32 num, .int .u32 ack, .int .u32 mask]) (.int .i64 1)).run Tryd.prog W = .ok (.int .u32 ep) W := fun W => run_idx5 ses ep num ack mask W 1 (by omega)
      go_wp2_with fail
      refine (wfour_ok _ _ _ v _ (ep : Int) (by omega) (by omega) HW.out (by omega) (by omega)).mono ?_
      rintro e w2 ⟨rfl, v2, h2⟩
      have K2 := Lib.hid (WPost.outer HKR.out HW.out h2 (by omega))
      have H2 := Lib.hid h2.is
      have B2 := Lib.hid (h2.keeps.block w.heap.size (by omega) (by rintro (e | e); omega; exact absurd (own_base HW.out.row _ e) (by omega)))
      clear h2
      go_wp2
      go_roundw
      case rel => exact ⟨2, v2, by omega, by go_num, by have h := H2.out; simpa [preL] using h, K2.out, B2.out.trans HFR.out⟩
      case measure => simp [intOf]
    · have hn := HF.out.num
      simp only at hn
      have hi : ∀ W : World, (Instr.index 120 (.agg #[.int .u32 ses, .int .u32 ep, .int .u32 num, .int .u32 ack, .int .u32 mask]) (.int .i64 2)).run Tryd.prog W = .ok (.int .u32 num) W := fun W => run_idx5 ses ep num ack mask W 2 (by omega)
      go_wp2_with fail
      refine (wfour_ok _ _ _ v _ (num : Int) (by omega) (by omega) HW.out (by omega) (by omega)).mono ?_
      rintro e w2 ⟨rfl, v2, h2⟩
      have K2 := Lib.hid (WPost.outer HKR.out HW.out h2 (by omega))
      have H2 := Lib.hid h2.is
      have B2 := Lib.hid (h2.keeps.block w.heap.size (by omega) (by rintro (e | e); omega; exact absurd (own_base HW.out.row _ e) (by omega)))
      clear h2
      go_wp2
      go_roundw
      case rel => exact ⟨3, v2, by omega, by go_num, by have h := H2.out; simpa [preL] using h, K2.out, B2.out.trans HFR.out⟩
      case measure => simp [intOf]
    · have hn := HF.out.ack
      simp only at hn
      have hi : ∀ W : World, (Instr.index 120 (.agg #[.int .u32 ses, .int .u32 ep, .int .u32 num, .int .u32 ack, .int .u32 mask]) (.int .i64 3)).run Tryd.prog W = .ok (.int .u32 ack) W := fun W => run_idx5 ses ep num ack mask W 3 (by omega)
      go_wp2_with fail
      refine (wfour_ok _ _ _ v _ (ack : Int) (by omega) (by omega) HW.out (by omega) (by omega)).mono ?_
      rintro e w2 ⟨rfl, v2, h2⟩
      have K2 := Lib.hid (WPost.outer HKR.out HW.out h2 (by omega))
      have H2 := Lib.hid h2.is
      have B2 := Lib.hid (h2.keeps.block w.heap.size (by omega) (by rintro (e | e); omega; exact absurd (own_base HW.out.row _ e) (by omega)))
      clear h2
      go_wp2
      go_roundw
      case rel => exact ⟨4, v2, by omega, by go_num, by have h := H2.out; simpa [preL] using h, K2.out, B2.out.trans HFR.out⟩
      case measure => simp [intOf]
    · have hn := HF.out.mask
      simp only at hn
      have hi : ∀ W : World, (Instr.index 120 (.agg #[.int .u32 ses, .int .u32 ep, .int .u32 num, .int .u32 ack, .int .u32 mask]) (.int .i64 4)).run Tryd.prog W = .ok (.int .u32 mask) W := fun W => run_idx5 ses ep num ack mask W 4 (by omega)
      go_wp2_with fail
      refine (wfour_ok _ _ _ v _ (mask : Int) (by omega) (by omega) HW.out (by omega) (by omega)).mono ?_
      rintro e w2 ⟨rfl, v2, h2⟩
      have K2 := Lib.hid (WPost.outer HKR.out HW.out h2 (by omega))
      have H2 := Lib.hid h2.is
      have B2 := Lib.hid (h2.keeps.block w.heap.size (by omega) (by rintro (e | e); omega; exact absurd (own_base HW.out.row _ e) (by omega)))
      clear h2
      go_wp2
      go_roundw
      case rel => exact ⟨5, v2, by omega, by go_num, by have h := H2.out; simpa [preL] using h, K2.out, B2.out.trans HFR.out⟩
      case measure => simp [intOf]
    · have dd : wr.cell? ⟨w.heap.size, 6, none⟩ = some (.slice A pl.length c) := by rw [blk_cell (HFR.out.trans HB.out)]; rfl
      have hstr := rd_string (P := Tryd.prog) Tryd.underlying22 Tryd.underlying5 Tryd.underlying9 (HKR.out.rdNo HR.out) c
      go_wp2_with fail
      refine (wtext_ok _ _ _ v _ ⟨pl.toArray⟩ (by show pl.length ≤ _; omega) HW.out (by omega) (by show _ + _ + pl.length ≤ _; omega)).mono ?_
      rintro e w2 ⟨rfl, v2, h2⟩
      have K2 := Lib.hid (WPost.outer HKR.out HW.out h2 (by omega))
      have H2 := Lib.hid h2.is
      clear h2 hstr
      go_wp2
      go_ret
      refine ⟨_, v2, rfl, ?_, K2.out⟩
      have h := H2.out
      have e : preL ⟨kind, ses, ep, num, ack, mask, pl⟩ 5 ++ be2 (ByteArray.size ⟨pl.toArray⟩) ++ (⟨pl.toArray⟩ : ByteArray).data.toList = layL ⟨kind, ses, ep, num, ack, mask, pl⟩ := by
        have e1 : ByteArray.size ⟨pl.toArray⟩ = pl.length := rfl
        rw [e1, HL.out]
        simp [preL]
      rw [e] at h
      exact ⟨h.blk, by omega, own_less h.row (by omega)⟩
end Go.Proofs.YtieipnnpkngegaaDoor
