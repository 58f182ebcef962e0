/- The walk of the law FrameBack. -/
import Derived.Test.YtieipnnpkngegaaDoorDk
import Derived.Test.YtieipnnpkngegaaDoorDj
import Derived.Test.YtieipnnpkngegaaDoorFt
import Derived.Test.YtieipnnpkngegaaDoorDw
import Derived.IntWalk
namespace Go.Proofs.YtieipnnpkngegaaDoor
open Go.RowKit Go.Proofs.YtieipnnpkngegaaDoorW.PrintWords

theorem enc_eqb (F : Frm) (h : mayB F = true) (t : Nat) : encL F t = layL F ++ be8 t ++ be4 (crcOf (layL F ++ be8 t)) := if_pos h
theorem enc_lenb (F : Frm) (h : mayB F = true) (t : Nat) : (encL F t).length = 35 + F.pl.length := by
  rw [enc_eqb F h, List.length_append, List.length_append, be8_len, be4_len, layL_len]; omega
theorem same_self (F : Frm) : sameB F F = true := (sameB_iff F F).2 rfl
theorem natBE_subb (l : List UInt8) (m : Nat) (h : l.length ≤ m) : natBE l < 256 ^ m := Nat.lt_of_lt_of_le (natBE_lt l) (Nat.pow_le_pow_right (by omega) h)
theorem decF_okb (l : List UInt8) : (decF l).Ok := by
  unfold decF
  split
  · exact ⟨natBE_subb _ 1 (by simp; omega), natBE_subb _ 4 (by simp; omega), natBE_subb _ 4 (by simp; omega), natBE_subb _ 4 (by simp; omega), natBE_subb _ 4 (by simp; omega), natBE_subb _ 4 (by simp; omega)⟩
  · exact ⟨by decide, by decide, by decide, by decide, by decide, by decide⟩
theorem decT_lt (l : List UInt8) : decT l < 18446744073709551616 := by
  unfold decT
  split
  · exact natBE_subb _ 8 (by simp; omega)
  · decide
theorem shl_bit (m : Nat) (h : m < 8) : IntKind.u8.wrap ((1 : Int) * 2 ^ m) = ((2 ^ m : Nat) : Int) ∧ 2 ^ m < 256 ∧ 0 < 2 ^ m := by
  rcases (show m = 0 ∨ m = 1 ∨ m = 2 ∨ m = 3 ∨ m = 4 ∨ m = 5 ∨ m = 6 ∨ m = 7 by omega) with rfl | rfl | rfl | rfl | rfl | rfl | rfl | rfl <;> decide
theorem xorBit (b : UInt8) (m : Nat) (h : m < 8) : Value.int .u8 (bits .xor .u8 (b.toNat : Int) (2 ^ m % 256)) = B8 (b ^^^ UInt8.ofNat (2 ^ m)) := by
  have hb := u8_xor_nat b.toNat (UInt8.ofNat (2 ^ m)).toNat b.toNat_lt (UInt8.ofNat (2 ^ m)).toNat_lt
  have e : ((UInt8.ofNat (2 ^ m)).toNat : Int) = 2 ^ m % 256 := by
    rcases (show m = 0 ∨ m = 1 ∨ m = 2 ∨ m = 3 ∨ m = 4 ∨ m = 5 ∨ m = 6 ∨ m = 7 by omega) with rfl | rfl | rfl | rfl | rfl | rfl | rfl | rfl <;> decide
  rw [e] at hb
  rw [B8, UInt8.toNat_xor]
  exact congrArg (Value.int .u8) hb
theorem bit_pos (m : Nat) (h : m < 8) : 0 < (UInt8.ofNat (2 ^ m)).toNat := by
  rcases (show m = 0 ∨ m = 1 ∨ m = 2 ∨ m = 3 ∨ m = 4 ∨ m = 5 ∨ m = 6 ∨ m = 7 by omega) with rfl | rfl | rfl | rfl | rfl | rfl | rfl | rfl <;> decide
theorem beqE {a : Int} (h : a ≠ 0) : (a == 0) = false := by simpa using h
theorem decE_get (D : List UInt8) (j : Nat) (hj : j < D.length) : D.getD j 0 = D[j] := by simp [List.getD_eq_getElem?_getD, List.getElem?_eq_getElem hj]
/-- A byte with one bit turned is another. -/
theorem xor_ne (b x : UInt8) (h : 0 < x.toNat) : b ^^^ x ≠ b := by
  intro e
  have : (b ^^^ b) ^^^ x = b ^^^ b := by rw [UInt8.xor_assoc, e]
  rw [UInt8.xor_self, UInt8.zero_xor] at this
  rw [this] at h; simp at h
set_option linter.unusedSimpArgs false in
set_option maxRecDepth 100000 in
set_option maxHeartbeats 25600000 in
theorem frameBack_walk (w : World) (f : Frm) (hf : f.Ok) (A : Option Addr) (c : Nat) (hR : Rd w A f.pl.length f.pl) (hc : f.pl.length ≤ c)
    (tag : Nat) (htag : tag < 18446744073709551616) (bit : Nat) (hbit : bit < 65536) (A' : Option Addr) (n c' : Nat) (b : List UInt8) (hR' : Rd w A' n b) (hc' : n ≤ c') (hTab : Tabb w) (hT : MayT w) :
    Calls Tryd.prog 13 #[.agg (f.cs (.slice A f.pl.length c)), .int .u64 tag, .int .u16 bit, .slice A' n c'] w fun e w' => e = .returned (.bool true) ∧ Keeps No w w' := by
  have HM1 := Lib.hid (show ∀ W, Calls Tryd.prog 49 #[.agg (f.cs (.slice A f.pl.length c))] W (fun x W' => ∃ A1 c1, x = .returned (.agg ((made f).cs (.slice A1 (made f).pl.length c1))) ∧ (∀ W0, Rd W0 A f.pl.length f.pl → Rd W0 A1 (made f).pl.length (made f).pl) ∧ (made f).pl.length ≤ c1 ∧ Keeps No W W') from fun W => made_any W f hf A c hc)
  have HFO := Lib.hid (made_ok f hf)
  have HFM := Lib.hid (made_may f)
  have hFL := made_len f
  have HRF := Lib.hid hR
  have hnb := hR'.2.1
  have hqc : min n 400 ≤ c' := by omega
  have hq4 : min n 400 ≤ 400 := by omega
  have hmin := min_num n 400 400 rfl
  have hRt := hR'.take (min n 400) (by omega)
  have hml := hRt.len
  generalize b.take (min n 400) = m at *
  generalize min n 400 = q at *
  subst hml
  have HRM := Lib.hid hRt
  have HT := Lib.hid hT
  have HTB := Lib.hid hTab
  clear hR hR' hT hTab hf hRt
  generalize made f = F at *
  have HENC := Lib.hid (dec_enc F HFO.out HFM.out tag htag)
  have HEL := Lib.hid (enc_lenb F HFM.out tag)
  obtain ⟨f0, f1, f2, f3, f4, f5, fpl⟩ := f
  obtain ⟨p0, p1, p2, p3, p4, p5, ppl⟩ := F
  simp only [Frm.cs] at HM1 hFL HRF ⊢
  simp only at hc
  go_enter Tryd.func13, Tryd.ntmps13
  have hk0 := (Keeps.refl No w).alloc (.cells #[.int .u8 f0, .int .u32 f1, .int .u32 f2, .int .u32 f3, .int .u32 f4, .int .u32 f5, .slice A fpl.length c] 68)
  have hb1 := heap_alloc_new w (.cells #[.int .u8 f0, .int .u32 f1, .int .u32 f2, .int .u32 f3, .int .u32 f4, .int .u32 f5, .slice A fpl.length c] 68)
  go_wp2_with fail
  generalize w.alloc (.cells #[.int .u8 f0, .int .u32 f1, .int .u32 f2, .int .u32 f3, .int .u32 f4, .int .u32 f5, .slice A fpl.length c] 68) = wa at *
  have KA := Lib.hid hk0
  have HB1 := Lib.hid hb1
  clear hk0 hb1
  have a0 : wa.cell? ⟨w.heap.size, 0, none⟩ = some (.int .u8 f0) := by rw [blk_cell HB1.out]; rfl
  have a1 : wa.cell? ⟨w.heap.size, 1, none⟩ = some (.int .u32 f1) := by rw [blk_cell HB1.out]; rfl
  have a2 : wa.cell? ⟨w.heap.size, 2, none⟩ = some (.int .u32 f2) := by rw [blk_cell HB1.out]; rfl
  have a3 : wa.cell? ⟨w.heap.size, 3, none⟩ = some (.int .u32 f3) := by rw [blk_cell HB1.out]; rfl
  have a4 : wa.cell? ⟨w.heap.size, 4, none⟩ = some (.int .u32 f4) := by rw [blk_cell HB1.out]; rfl
  have a5 : wa.cell? ⟨w.heap.size, 5, none⟩ = some (.int .u32 f5) := by rw [blk_cell HB1.out]; rfl
  have a6 : wa.cell? ⟨w.heap.size, 6, none⟩ = some (.slice A fpl.length c) := by rw [blk_cell HB1.out]; rfl
  go_wp2_with fail
  refine (HM1.out wa).mono ?_
  rintro e wb ⟨A1, c1, rfl, hr1, hc1, hkx⟩
  have HRA := Lib.hid hr1
  have KB := Lib.hid (KA.out.then hkx)
  have HB2 := Lib.hid (hkx.heap HB1.out (fun h => h))
  clear hr1 hkx
  clear a0 a1 a2 a3 a4 a5 a6
  have a0 : wb.cell? ⟨w.heap.size, 0, none⟩ = some (.int .u8 f0) := by rw [blk_cell HB2.out]; rfl
  have ya0 : wb.frozen? ⟨w.heap.size, 0, none⟩ = false := blk_frozen HB2.out 0
  have a1 : wb.cell? ⟨w.heap.size, 1, none⟩ = some (.int .u32 f1) := by rw [blk_cell HB2.out]; rfl
  have ya1 : wb.frozen? ⟨w.heap.size, 1, none⟩ = false := blk_frozen HB2.out 1
  have a2 : wb.cell? ⟨w.heap.size, 2, none⟩ = some (.int .u32 f2) := by rw [blk_cell HB2.out]; rfl
  have ya2 : wb.frozen? ⟨w.heap.size, 2, none⟩ = false := blk_frozen HB2.out 2
  have a3 : wb.cell? ⟨w.heap.size, 3, none⟩ = some (.int .u32 f3) := by rw [blk_cell HB2.out]; rfl
  have ya3 : wb.frozen? ⟨w.heap.size, 3, none⟩ = false := blk_frozen HB2.out 3
  have a4 : wb.cell? ⟨w.heap.size, 4, none⟩ = some (.int .u32 f4) := by rw [blk_cell HB2.out]; rfl
  have ya4 : wb.frozen? ⟨w.heap.size, 4, none⟩ = false := blk_frozen HB2.out 4
  have a5 : wb.cell? ⟨w.heap.size, 5, none⟩ = some (.int .u32 f5) := by rw [blk_cell HB2.out]; rfl
  have ya5 : wb.frozen? ⟨w.heap.size, 5, none⟩ = false := blk_frozen HB2.out 5
  have a6 : wb.cell? ⟨w.heap.size, 6, none⟩ = some (.slice A fpl.length c) := by rw [blk_cell HB2.out]; rfl
  have ya6 : wb.frozen? ⟨w.heap.size, 6, none⟩ = false := blk_frozen HB2.out 6
  go_wp2_with fail
  have hst := stF_keeps wb w.heap.size (.int .u8 p0) (.int .u32 p1) (.int .u32 p2) (.int .u32 p3) (.int .u32 p4) (.int .u32 p5) (.slice A1 ppl.length c1)
  have KF := Lib.hid (show Keeps No w (stF wb w.heap.size (.int .u8 p0) (.int .u32 p1) (.int .u32 p2) (.int .u32 p3) (.int .u32 p4) (.int .u32 p5) (.slice A1 ppl.length c1)) from KB.out.trans hst (fun i hi => .inr (by have hi : i = w.heap.size := hi; omega)))
  have HP := Lib.hid (stF_heap HB2.out (.int .u8 p0) (.int .u32 p1) (.int .u32 p2) (.int .u32 p3) (.int .u32 p4) (.int .u32 p5) (.slice A1 ppl.length c1))
  change Calls _ _ _ (stF wb w.heap.size (.int .u8 p0) (.int .u32 p1) (.int .u32 p2) (.int .u32 p3) (.int .u32 p4) (.int .u32 p5) (.slice A1 ppl.length c1)) _
  generalize stF wb w.heap.size (.int .u8 p0) (.int .u32 p1) (.int .u32 p2) (.int .u32 p3) (.int .u32 p4) (.int .u32 p5) (.slice A1 ppl.length c1) = wf at *
  clear a0 a1 a2 a3 a4 a5 a6 ya0 ya1 ya2 ya3 ya4 ya5 ya6
  have HT2 := Lib.hid (HT.out.keptNo KF.out)
  have HTB2 := Lib.hid (HTB.out.keptNo KF.out)
  have hlt0 : w.heap.size < wf.heap.size := blk_lt HP.out
  have HRP := Lib.hid (HRA.out wf (KF.out.rdNo HRF.out))
  have HE1 := Lib.hid (show Calls Tryd.prog 42 #[.agg #[.int .u8 p0, .int .u32 p1, .int .u32 p2, .int .u32 p3, .int .u32 p4, .int .u32 p5, .slice A1 ppl.length c1], .int .u64 (tag : Nat)] wf (fun x W' => ∃ r, x = .returned (.tuple #[r, .int .i64 0]) ∧ CPost wf (encL ⟨p0, p1, p2, p3, p4, p5, ppl⟩ tag) W' r) from by
    have h := encode_any wf ⟨p0, p1, p2, p3, p4, p5, ppl⟩ HFO.out A1 c1 HRP.out HT2.out tag htag HTB2.out
    unfold EEnd at h
    rw [show errE ⟨p0, p1, p2, p3, p4, p5, ppl⟩ = 0 from if_pos HFM.out] at h
    exact h)
  refine HE1.out.mono ?_
  rintro e we ⟨r, rfl, h1⟩
  obtain ⟨Ac, cc, rfl, hcc, hRc⟩ := h1.row.rd
  have KE := Lib.hid h1.keeps
  have HPE := Lib.hid (h1.keeps.heap HP.out (fun h => h))
  have HRD := Lib.hid hRc
  have KWE := Lib.hid (KF.out.then h1.keeps)
  have HRPE := Lib.hid (h1.keeps.rdNo HRP.out)
  clear h1 hRc HE1
  have a0 : we.cell? ⟨w.heap.size, 0, none⟩ = some (.int .u8 p0) := by rw [blk_cell HPE.out]; rfl
  have a1 : we.cell? ⟨w.heap.size, 1, none⟩ = some (.int .u32 p1) := by rw [blk_cell HPE.out]; rfl
  have a2 : we.cell? ⟨w.heap.size, 2, none⟩ = some (.int .u32 p2) := by rw [blk_cell HPE.out]; rfl
  have a3 : we.cell? ⟨w.heap.size, 3, none⟩ = some (.int .u32 p3) := by rw [blk_cell HPE.out]; rfl
  have a4 : we.cell? ⟨w.heap.size, 4, none⟩ = some (.int .u32 p4) := by rw [blk_cell HPE.out]; rfl
  have a5 : we.cell? ⟨w.heap.size, 5, none⟩ = some (.int .u32 p5) := by rw [blk_cell HPE.out]; rfl
  have a6 : we.cell? ⟨w.heap.size, 6, none⟩ = some (.slice A1 ppl.length c1) := by rw [blk_cell HPE.out]; rfl
  have HDEC := Lib.hid (show ∀ W, Keeps No we W → Calls Tryd.prog 53 #[.slice Ac (encL ⟨p0, p1, p2, p3, p4, p5, ppl⟩ tag).length cc] W (fun x W' => ∃ r, x = .returned (.tuple #[.agg #[.int .u8 p0, .int .u32 p1, .int .u32 p2, .int .u32 p3, .int .u32 p4, .int .u32 p5, r], .int .u64 (tag : Nat), .int .i64 0]) ∧ CPost W ppl W' r) from fun W k => by
    have hl : (encL ⟨p0, p1, p2, p3, p4, p5, ppl⟩ tag).length = 35 + ppl.length := HEL.out
    have h := decode_any W Ac _ cc _ (k.rdNo HRD.out) hcc (by omega) (HT2.out.keptNo (KE.out.then k)) (HTB2.out.keptNo (KE.out.then k))
    unfold DecEnd at h
    rw [HENC.out.1, HENC.out.2.1, HENC.out.2.2] at h
    exact h)
  have HD0 := Lib.hid HENC.out.1
  have HDL := Lib.hid (decE_zero _ HENC.out.1).1
  have hdl : (encL ⟨p0, p1, p2, p3, p4, p5, ppl⟩ tag).length = 35 + ppl.length := HEL.out
  clear HENC
  generalize encL ⟨p0, p1, p2, p3, p4, p5, ppl⟩ tag = D at *
  have hDl : D.length ≤ 291 := by omega
  have hnx : ((D.length : Int) != 35 + (ppl.length : Int)) = false := by
    have : (D.length : Int) = 35 + (ppl.length : Int) := by omega
    simp [bne, this]
  have hw35 : IntKind.i64.wrap (35 + (ppl.length : Int)) = 35 + (ppl.length : Int) := IntWalk.i64_in _ (by omega)
  have HDD := Lib.hid hdl
  have hD35 : 35 ≤ D.length := by omega
  clear hdl HEL
  go_wp2_with fail
  refine (HDEC.out we (Keeps.refl _ _)).mono ?_
  rintro e wg ⟨r, rfl, h2⟩
  obtain ⟨Ag, cg, rfl, hcg, hRg⟩ := h2.row.rd
  have ha := (Keeps.refl No wg).alloc (.cells #[.int .u8 p0, .int .u32 p1, .int .u32 p2, .int .u32 p3, .int .u32 p4, .int .u32 p5, .slice Ag ppl.length cg] 68)
  have hb := heap_alloc_new wg (.cells #[.int .u8 p0, .int .u32 p1, .int .u32 p2, .int .u32 p3, .int .u32 p4, .int .u32 p5, .slice Ag ppl.length cg] 68)
  have hsg := h2.keeps.size
  have hse := KE.out.size
  have KG := Lib.hid (h2.keeps.then ha)
  have HG := Lib.hid hb
  have HPG := Lib.hid (KG.out.heap HPE.out (fun h => h))
  have HRG := Lib.hid (ha.rdNo hRg)
  have HRPG := Lib.hid (KG.out.rdNo HRPE.out)
  have h2keep := h2.keeps
  clear h2 ha hb hRg hnx hw35
  clear a0 a1 a2 a3 a4 a5 a6
  have HPW := Lib.hid (h2keep.heap HPE.out (fun h => h))
  have hltg : w.heap.size < wg.heap.size := by omega
  have a0 : ∀ o, (wg.alloc o).cell? ⟨w.heap.size, 0, none⟩ = some (.int .u8 p0) := fun o => by rw [World.cell?_alloc_lt wg o _ hltg, blk_cell HPW.out]; rfl
  have a1 : ∀ o, (wg.alloc o).cell? ⟨w.heap.size, 1, none⟩ = some (.int .u32 p1) := fun o => by rw [World.cell?_alloc_lt wg o _ hltg, blk_cell HPW.out]; rfl
  have a2 : ∀ o, (wg.alloc o).cell? ⟨w.heap.size, 2, none⟩ = some (.int .u32 p2) := fun o => by rw [World.cell?_alloc_lt wg o _ hltg, blk_cell HPW.out]; rfl
  have a3 : ∀ o, (wg.alloc o).cell? ⟨w.heap.size, 3, none⟩ = some (.int .u32 p3) := fun o => by rw [World.cell?_alloc_lt wg o _ hltg, blk_cell HPW.out]; rfl
  have a4 : ∀ o, (wg.alloc o).cell? ⟨w.heap.size, 4, none⟩ = some (.int .u32 p4) := fun o => by rw [World.cell?_alloc_lt wg o _ hltg, blk_cell HPW.out]; rfl
  have a5 : ∀ o, (wg.alloc o).cell? ⟨w.heap.size, 5, none⟩ = some (.int .u32 p5) := fun o => by rw [World.cell?_alloc_lt wg o _ hltg, blk_cell HPW.out]; rfl
  have a6 : ∀ o, (wg.alloc o).cell? ⟨w.heap.size, 6, none⟩ = some (.slice A1 ppl.length c1) := fun o => by rw [World.cell?_alloc_lt wg o _ hltg, blk_cell HPW.out]; rfl
  have HSB := Lib.hid (show Calls Tryd.prog 51 #[.agg #[.int .u8 p0, .int .u32 p1, .int .u32 p2, .int .u32 p3, .int .u32 p4, .int .u32 p5, .slice A1 ppl.length c1], .agg #[.int .u8 p0, .int .u32 p1, .int .u32 p2, .int .u32 p3, .int .u32 p4, .int .u32 p5, .slice Ag ppl.length cg]] (wg.alloc (.cells #[.int .u8 p0, .int .u32 p1, .int .u32 p2, .int .u32 p3, .int .u32 p4, .int .u32 p5, .slice Ag ppl.length cg] 68)) (fun e w' => e = .returned (.bool true) ∧ Keeps No (wg.alloc (.cells #[.int .u8 p0, .int .u32 p1, .int .u32 p2, .int .u32 p3, .int .u32 p4, .int .u32 p5, .slice Ag ppl.length cg] 68)) w') from by
    have h := psame_any (wg.alloc (.cells #[.int .u8 p0, .int .u32 p1, .int .u32 p2, .int .u32 p3, .int .u32 p4, .int .u32 p5, .slice Ag ppl.length cg] 68)) ⟨p0, p1, p2, p3, p4, p5, ppl⟩ ⟨p0, p1, p2, p3, p4, p5, ppl⟩ A1 Ag c1 cg HRPG.out HRG.out
    rw [show sameB ⟨p0, p1, p2, p3, p4, p5, ppl⟩ ⟨p0, p1, p2, p3, p4, p5, ppl⟩ = true from same_self _] at h
    exact h)
  have htt : ((tag : Int) != (tag : Int)) = false := by simp
  go_wp2_with fail
  refine HSB.out.mono ?_
  rintro e wh ⟨rfl, hkx⟩
  have KH := Lib.hid (KG.out.then hkx)
  have hsh := hkx.size
  clear HSB hkx
  clear a0 a1 a2 a3 a4 a5 a6
  go_wp2_with fail
  refine (sclone_any wh Ac D.length cc D (KH.out.rdNo HRD.out) (by omega)).mono ?_
  rintro e w3 ⟨r, rfl, h3⟩
  obtain ⟨g, cap, rfl, hg1, hg2⟩ := h3.row.form (by omega)
  have H3 := Lib.hid h3
  have hs3 := h3.keeps.size
  have hcap : D.length ≤ cap := by
    obtain ⟨A9, c9, e9, h9, _⟩ := h3.row.rd
    injection e9 with _ _ e3
    omega
  clear h3
  go_wp2_with fail
  obtain ⟨k, hk, hkl⟩ : ∃ k : Nat, (bit : Int) % (8 * (D.length : Int)) = (k : Int) ∧ k < 8 * D.length := by
    refine ⟨bit % (8 * D.length), by simp, Nat.mod_lt _ (by omega)⟩
  rw [hk]
  have HK := Lib.hid hk
  clear hk
  have hk0 : (0 : Int) ≤ (k : Int) / 8 := by omega
  have hk1 : (k : Int) / 8 < (D.length : Int) := by omega
  have hk2 : (0 : Int) ≤ (k : Int) % 8 := by omega
  have hk3 : (k : Int) % 8 < 8 := by omega
  have hown := H3.out.row
  have hcl := (own_at_of (d := (0 : UInt8)) (show Ow w3 wh.heap.size (.slice (some ⟨g, 0, none⟩) D.length cap) D from H3.out.row) ((k / 8 : Nat) : Int) (by omega) (by omega)).1
  have hcf := (own_at_of (d := (0 : UInt8)) (show Ow w3 wh.heap.size (.slice (some ⟨g, 0, none⟩) D.length cap) D from H3.out.row) ((k / 8 : Nat) : Int) (by omega) (by omega)).2
  simp only [Int.toNat_natCast, rdOf, B8] at hcl hcf
  have hnd : ((k : Int) / 8).toNat = k / 8 := by omega
  have HBAD := Lib.hid (show decE (D.set (k / 8) (D.getD (k / 8) 0 ^^^ UInt8.ofNat (2 ^ (k % 8)))) ≠ 0 from
    dec_bit D HD0.out (k / 8) (by omega) _ (by rw [decE_get D (k / 8) (by omega)]; exact xor_ne _ _ (bit_pos (k % 8) (by omega))))
  have HXB := Lib.hid (xorBit (D.getD (k / 8) 0) (k % 8) (by omega))
  generalize D.getD (k / 8) 0 = bb at *
  have hbb := bb.toNat_lt
  clear hown
  go_region
  go_wp2_with fail
  rw [HXB.out]
  have HO4 := Lib.hid (show Ow (w3.setCell ⟨g, k / 8, none⟩ (B8 (bb ^^^ UInt8.ofNat (2 ^ (k % 8))))).drew wh.heap.size (.slice (some ⟨g, 0, none⟩) D.length cap) (D.set (k / 8) (bb ^^^ UInt8.ofNat (2 ^ (k % 8)))) from by
    have hs := (own_store_of H3.out.row ((k / 8 : Nat) : Int) (bb ^^^ UInt8.ofNat (2 ^ (k % 8)))).1
    rw [Int.toNat_natCast] at hs
    unfold Ow
    rw [List.length_set]
    exact hs)
  have K4 := Lib.hid (show Keeps No wh (w3.setCell ⟨g, k / 8, none⟩ (B8 (bb ^^^ UInt8.ofNat (2 ^ (k % 8))))).drew from (H3.out.keeps.setCell (p := ⟨g, k / 8, none⟩) (.inr (own_base H3.out.row g rfl)) _).drew)
  clear hcl hcf HXB hk2 hk3 hnd
  generalize (w3.setCell ⟨g, k / 8, none⟩ (B8 (bb ^^^ UInt8.ofNat (2 ^ (k % 8))))).drew = w4 at *
  generalize HDB : D.set (k / 8) (bb ^^^ UInt8.ofNat (2 ^ (k % 8))) = DB at *
  have hDB : DB.length = D.length := by rw [← HDB, List.length_set]
  clear HDB
  have HRB := Lib.hid (show Rd w4 (some ⟨g, 0, none⟩) D.length DB from by
    obtain ⟨A9, c9, e9, _, hr9⟩ := HO4.out.rd
    injection e9 with e1 e2 e3
    subst e1
    rw [hDB] at hr9
    exact hr9)
  clear hDB
  have KE4 := Lib.hid (show Keeps No we w4 from KH.out.then K4.out)
  have hDE := beqE HBAD.out
  have HDX := Lib.hid (show Calls Tryd.prog 53 #[.slice (some ⟨g, 0, none⟩) D.length cap] w4 (fun x W' => ∃ r, x = .returned (.tuple #[.agg #[.int .u8 (0 : Nat), .int .u32 (0 : Nat), .int .u32 (0 : Nat), .int .u32 (0 : Nat), .int .u32 (0 : Nat), .int .u32 (0 : Nat), r], .int .u64 0, .int .i64 (decE DB)]) ∧ CPost w4 [] W' r) from by
    have h := decode_any w4 (some ⟨g, 0, none⟩) D.length cap DB HRB.out (by omega) (by omega) (HT2.out.keptNo (KE.out.then KE4.out)) (HTB2.out.keptNo (KE.out.then KE4.out))
    unfold DecEnd at h
    rw [decF_bad HBAD.out, decT_bad HBAD.out] at h
    exact h)
  generalize decE DB = EB at *
  clear HBAD
  refine HDX.out.mono ?_
  rintro e w5 ⟨r, rfl, h5⟩
  obtain ⟨A5, c5, rfl, hc5, _⟩ := h5.row.rd
  have K5 := Lib.hid (KE4.out.then h5.keeps)
  have hs5 := h5.keeps.size
  clear h5 HDX
  have hkc : (k : Int) / 8 ≤ (cc : Int) := by omega
  go_wp2_with fail
  have ha6 := (Keeps.refl No w5).alloc (.cells #[.int .u8 0, .int .u32 0, .int .u32 0, .int .u32 0, .int .u32 0, .int .u32 0, .slice A5 0 c5] 68)
  have K6 := Lib.hid (K5.out.then ha6)
  have hs6 := ha6.size
  clear ha6
  generalize w5.alloc (.cells #[.int .u8 0, .int .u32 0, .int .u32 0, .int .u32 0, .int .u32 0, .int .u32 0, .slice A5 0 c5] 68) = w6 at *
  have HD4 := Lib.hid (dec_cut D HDL.out (k / 8) (by omega))
  have HDC := Lib.hid (show Calls Tryd.prog 53 #[.slice Ac (k / 8) cc] w6 (fun x W' => ∃ r, x = .returned (.tuple #[.agg #[.int .u8 (0 : Nat), .int .u32 (0 : Nat), .int .u32 (0 : Nat), .int .u32 (0 : Nat), .int .u32 (0 : Nat), .int .u32 (0 : Nat), r], .int .u64 0, .int .i64 4]) ∧ CPost w6 [] W' r) from by
    have h := decode_any w6 Ac (k / 8) cc (D.take (k / 8)) ((K6.out.rdNo HRD.out).take (k / 8) (by omega)) (by omega) (by omega) (HT2.out.keptNo (KE.out.then K6.out)) (HTB2.out.keptNo (KE.out.then K6.out))
    unfold DecEnd at h
    rw [decF_bad (by rw [HD4.out]; decide), decT_bad (by rw [HD4.out]; decide), HD4.out] at h
    exact h)
  refine HDC.out.mono ?_
  rintro e w7 ⟨r, rfl, h7⟩
  obtain ⟨A7, c7, rfl, hc7, _⟩ := h7.row.rd
  have K7 := Lib.hid (K6.out.then h7.keeps)
  have hs7 := h7.keeps.size
  clear h7 HDC hk0 hk1 hkc
  go_wp2_with fail
  have ha8 := (Keeps.refl No w7).alloc (.cells #[.int .u8 0, .int .u32 0, .int .u32 0, .int .u32 0, .int .u32 0, .int .u32 0, .slice A7 0 c7] 68)
  have K8 := Lib.hid (K7.out.then ha8)
  have hs8 := ha8.size
  clear ha8
  generalize w7.alloc (.cells #[.int .u8 0, .int .u32 0, .int .u32 0, .int .u32 0, .int .u32 0, .int .u32 0, .slice A7 0 c7] 68) = w8 at *
  refine (sclone_any w8 Ac D.length cc D (K8.out.rdNo HRD.out) (by omega)).mono ?_
  rintro e w9 ⟨r, rfl, h9⟩
  have H9 := Lib.hid h9
  have hs9 := h9.keeps.size
  clear h9
  have hb9 := Lib.hid (show (#[Value.int .u8 ((bit : Int) % 256)] : Array Value) = (encs B8 [UInt8.ofNat bit]).toArray from by simp [encs, B8])
  go_wp2_with (at_builtin; go_loud (refine print_append_row_of (w0 := w8) B8 0 w8.heap.size rfl (.tmp 108) (.tmp 111) 22 5 (.int .u8 0) 1 rfl Tryd.underlying22 Tryd.info5 rfl (by decide) B8_one r D [UInt8.ofNat bit] _ 1 1 rfl rfl (by exact H9.out.row.alloc _) (by exact rd_mark w9 _ _ [UInt8.ofNat bit] 1 _ hb9.out rfl (by omega) rfl) (by exact H9.out.keeps.below'.alloc (Nat.le_of_lt_succ (by omega)) _) (by simp; omega) (by omega) ?_; intro v1 w10 hown hB hgr hat0; have KX := Lib.hid (Keeps.of_below hB); obtain ⟨A10, c10, hv1, hc10, hR10⟩ := (show Ow w10 w8.heap.size v1 (D ++ [UInt8.ofNat bit]) from hown).rd; subst hv1; have HR10 := Lib.hid hR10; have hs10 := KX.out.size; clear hown hB hgr hat0 hR10))
  have HDM := Lib.hid (show Calls Tryd.prog 53 #[.slice A10 (D.length + 1) c10] w10 (fun x W' => ∃ r, x = .returned (.tuple #[.agg #[.int .u8 (0 : Nat), .int .u32 (0 : Nat), .int .u32 (0 : Nat), .int .u32 (0 : Nat), .int .u32 (0 : Nat), .int .u32 (0 : Nat), r], .int .u64 0, .int .i64 5]) ∧ CPost w10 [] W' r) from by
    have hl : (D ++ [UInt8.ofNat bit]).length = D.length + 1 := by simp
    have hE := dec_more D HDL.out (UInt8.ofNat bit)
    have hr := HR10.out
    rw [hl] at hr
    have h := decode_any w10 A10 (D.length + 1) c10 (D ++ [UInt8.ofNat bit]) hr (by omega) (by omega) (HT2.out.keptNo (KE.out.then (K8.out.then KX.out))) (HTB2.out.keptNo (KE.out.then (K8.out.then KX.out)))
    unfold DecEnd at h
    rw [decF_bad (by rw [hE]; decide), decT_bad (by rw [hE]; decide), hE] at h
    exact h)
  refine HDM.out.mono ?_
  rintro e wk ⟨r, rfl, hk⟩
  obtain ⟨A11, c11, rfl, hc11, _⟩ := hk.row.rd
  have K11 := Lib.hid (KWE.out.then ((K8.out.then KX.out).then hk.keeps))
  have hs11 := hk.keeps.size
  clear hk HDM hb9
  go_wp2_with fail
  have ha12 := (Keeps.refl No wk).alloc (.cells #[.int .u8 0, .int .u32 0, .int .u32 0, .int .u32 0, .int .u32 0, .int .u32 0, .slice A11 0 c11] 68)
  have K12 := Lib.hid (K11.out.then ha12)
  have hs12 := ha12.size
  clear ha12
  generalize wk.alloc (.cells #[.int .u8 0, .int .u32 0, .int .u32 0, .int .u32 0, .int .u32 0, .int .u32 0, .slice A11 0 c11] 68) = w12 at *
  have HEB := Lib.hid hDE
  clear hDE
  clear hkl HD0 HDL HDEC HD4 HDD HK HRD HRB HRG HRPG HRPE HRP
  have hE := decE_cases m
  have HED := Lib.hid (fun h => enc_dec m h)
  have HFO2 := Lib.hid (decF_okb m)
  have HTL2 := Lib.hid (decT_lt m)
  have HZF := Lib.hid (fun h : decE m ≠ 0 => decF_bad h)
  have HZT := Lib.hid (fun h : decE m ≠ 0 => decT_bad h)
  have HD9 := Lib.hid (decode_any w12 A' m.length c' m (K12.out.rdNo HRM.out) (by omega) (by omega) (HT.out.keptNo K12.out) (HTB.out.keptNo K12.out))
  have HT12 := Lib.hid (HT.out.keptNo K12.out)
  have HTB12 := Lib.hid (HTB.out.keptNo K12.out)
  have HRM2 := Lib.hid (K12.out.rdNo HRM.out)
  unfold DecEnd at HD9
  by_cases h0 : decE m = 0
  · obtain ⟨hmay, henc⟩ := HED.out h0
    rw [h0] at HD9
    clear hE HZF HZT HED h0
    generalize decF m = X at *
    generalize decT m = T at *
    obtain ⟨x0, x1, x2, x3, x4, x5, xpl⟩ := X
    simp only [Frm.cs] at HD9
    have HMAY := Lib.hid hmay
    have HENC := Lib.hid henc
    clear hmay henc
    refine HD9.out.mono ?_
    rintro e w13 ⟨r, rfl, h13⟩
    obtain ⟨A13, c13, rfl, hc13, hr13⟩ := h13.row.rd
    have hb := heap_alloc_new w13 (.cells #[.int .u8 x0, .int .u32 x1, .int .u32 x2, .int .u32 x3, .int .u32 x4, .int .u32 x5, .slice A13 xpl.length c13] 68)
    have ha := (Keeps.refl No w13).alloc (.cells #[.int .u8 x0, .int .u32 x1, .int .u32 x2, .int .u32 x3, .int .u32 x4, .int .u32 x5, .slice A13 xpl.length c13] 68)
    have K13 := Lib.hid (h13.keeps.then ha)
    have HR13 := Lib.hid (ha.rdNo hr13)
    clear h13 ha hr13 HD9
    go_wp2_with fail
    have HBX := Lib.hid hb
    clear hb
    generalize w13.alloc (.cells #[.int .u8 x0, .int .u32 x1, .int .u32 x2, .int .u32 x3, .int .u32 x4, .int .u32 x5, .slice A13 xpl.length c13] 68) = w14 at *
    have HE2 := Lib.hid (show Calls Tryd.prog 42 #[.agg #[.int .u8 x0, .int .u32 x1, .int .u32 x2, .int .u32 x3, .int .u32 x4, .int .u32 x5, .slice A13 xpl.length c13], .int .u64 (T : Nat)] w14 (fun x W' => ∃ r, x = .returned (.tuple #[r, .int .i64 0]) ∧ CPost w14 m W' r) from by
      have h := encode_any w14 ⟨x0, x1, x2, x3, x4, x5, xpl⟩ HFO2.out A13 c13 HR13.out (HT12.out.keptNo K13.out) T HTL2.out (HTB12.out.keptNo K13.out)
      unfold EEnd at h
      rw [show errE ⟨x0, x1, x2, x3, x4, x5, xpl⟩ = 0 from if_pos HMAY.out, HENC.out] at h
      exact h)
    refine HE2.out.mono ?_
    rintro e w15 ⟨r, rfl, h15⟩
    obtain ⟨A15, c15, rfl, hc15, hr15⟩ := h15.row.rd
    have K15 := Lib.hid (K13.out.then h15.keeps)
    have HR15 := Lib.hid hr15
    have HBY := Lib.hid (h15.keeps.heap HBX.out (fun h => h))
    clear h15 hr15 HE2
    have e0 : w15.cell? ⟨w13.heap.size, 0, none⟩ = some (.int .u8 x0) := by rw [blk_cell HBY.out]; rfl
    have e1 : w15.cell? ⟨w13.heap.size, 1, none⟩ = some (.int .u32 x1) := by rw [blk_cell HBY.out]; rfl
    have e2 : w15.cell? ⟨w13.heap.size, 2, none⟩ = some (.int .u32 x2) := by rw [blk_cell HBY.out]; rfl
    have e3 : w15.cell? ⟨w13.heap.size, 3, none⟩ = some (.int .u32 x3) := by rw [blk_cell HBY.out]; rfl
    have e4 : w15.cell? ⟨w13.heap.size, 4, none⟩ = some (.int .u32 x4) := by rw [blk_cell HBY.out]; rfl
    have e5 : w15.cell? ⟨w13.heap.size, 5, none⟩ = some (.int .u32 x5) := by rw [blk_cell HBY.out]; rfl
    have e6 : w15.cell? ⟨w13.heap.size, 6, none⟩ = some (.slice A13 xpl.length c13) := by rw [blk_cell HBY.out]; rfl
    have HMY := Lib.hid (show Calls Tryd.prog 44 #[.agg #[.int .u8 x0, .int .u32 x1, .int .u32 x2, .int .u32 x3, .int .u32 x4, .int .u32 x5, .slice A13 xpl.length c13]] w15 (fun e w' => e = .returned (.bool true) ∧ Keeps No w15 w') from by
      have h := may_any w15 ⟨x0, x1, x2, x3, x4, x5, xpl⟩ HFO2.out A13 c13 (HT12.out.keptNo K15.out)
      rw [HMAY.out] at h
      exact h)
    go_wp2_with fail
    refine HMY.out.mono ?_
    rintro e w16 ⟨rfl, h16⟩
    have K16 := Lib.hid (K15.out.then h16)
    have HEQ := Lib.hid (show Calls Tryd.prog 50 #[.slice A15 m.length c15, .slice A' m.length c'] w16 (fun e w' => e = .returned (.bool true) ∧ Keeps No w16 w') from by
      have h := sequal_any w16 A15 A' _ _ c15 c' m m (h16.rdNo HR15.out) (K16.out.rdNo HRM2.out)
      rw [decide_eq_true rfl] at h
      exact h)
    clear h16 HMY e0 e1 e2 e3 e4 e5 e6
    go_wp2_with fail
    refine HEQ.out.mono ?_
    rintro e w17 ⟨rfl, h17⟩
    have K17 := Lib.hid (K16.out.then h17)
    clear h17 HEQ
    go_wp2_with fail
    refine (tells_any w17 (HT12.out.keptNo K17.out)).mono ?_
    rintro e w18 ⟨rfl, h18⟩
    have K18 := Lib.hid (K12.out.then (K17.out.then h18))
    clear h18
    go_wp2
    go_ret
    exact ⟨rfl, K18.out⟩
  · have hz := HZF.out h0
    have ht := HZT.out h0
    rw [hz, ht] at HD9
    clear HFO2 HTL2 HZF HZT HED hz ht
    simp only [zf, Frm.cs] at HD9
    generalize decE m = E at *
    have h4 : (E == 0) = false := beqE h0
    rcases hE with rfl | rfl | rfl | rfl
    · exact absurd rfl h0
    all_goals
      clear h0 h4
      refine HD9.out.mono ?_
      rintro e w13 ⟨r, rfl, h13⟩
      obtain ⟨A13, c13, rfl, hc13, hr13⟩ := h13.row.rd
      have hb := heap_alloc_new w13 (.cells #[.int .u8 0, .int .u32 0, .int .u32 0, .int .u32 0, .int .u32 0, .int .u32 0, .slice A13 0 c13] 68)
      have ha := (Keeps.refl No w13).alloc (.cells #[.int .u8 0, .int .u32 0, .int .u32 0, .int .u32 0, .int .u32 0, .int .u32 0, .slice A13 0 c13] 68)
      have K13 := Lib.hid (h13.keeps.then ha)
      clear h13 ha hr13 HD9
      go_wp2_with fail
      refine (show Calls Tryd.prog 51 #[.agg #[.int .u8 0, .int .u32 0, .int .u32 0, .int .u32 0, .int .u32 0, .int .u32 0, .slice A13 0 c13], .agg #[.int .u8 0, .int .u32 0, .int .u32 0, .int .u32 0, .int .u32 0, .int .u32 0, .slice none 0 0]] (w13.alloc (.cells #[.int .u8 0, .int .u32 0, .int .u32 0, .int .u32 0, .int .u32 0, .int .u32 0, .slice A13 0 c13] 68)) (fun e w' => e = .returned (.bool true) ∧ Keeps No (w13.alloc (.cells #[.int .u8 0, .int .u32 0, .int .u32 0, .int .u32 0, .int .u32 0, .int .u32 0, .slice A13 0 c13] 68)) w') from by
        have h := psame_any (w13.alloc (.cells #[.int .u8 0, .int .u32 0, .int .u32 0, .int .u32 0, .int .u32 0, .int .u32 0, .slice A13 0 c13] 68)) zf zf A13 none c13 0 (Rd.nil' _ _) (Rd.nil' _ _)
        rw [show sameB zf zf = true from same_self _] at h
        exact h).mono ?_
      rintro e w14 ⟨rfl, h14⟩
      have K14 := Lib.hid (K13.out.then h14)
      clear h14
      go_wp2_with fail
      refine (tells_any w14 (HT12.out.keptNo K14.out)).mono ?_
      rintro e w15 ⟨rfl, h15⟩
      have K15 := Lib.hid (K12.out.then (K14.out.then h15))
      clear h15
      go_wp2
      go_ret
      exact ⟨rfl, K15.out⟩
theorem frameBack_walk' (w : World) (f : Frm) (hf : f.Ok) (A : Option Addr) (c : Nat) (hR : Rd w A f.pl.length f.pl) (hc : f.pl.length ≤ c) (tag : Int) (h0 : 0 ≤ tag) (h1 : tag < 18446744073709551616) (bit : Int) (h2 : 0 ≤ bit) (h3 : bit < 65536)
    (A' : Option Addr) (n c' : Nat) (b : List UInt8) (hR' : Rd w A' n b) (hc' : n ≤ c') (hTab : Tabb w) (hT : MayT w) :
    Calls Tryd.prog 13 #[.agg (f.cs (.slice A f.pl.length c)), .int .u64 tag, .int .u16 bit, .slice A' n c'] w fun e w' => e = .returned (.bool true) ∧ Keeps No w w' := by
  have h := frameBack_walk w f hf A c hR hc tag.toNat (by omega) bit.toNat (by omega) A' n c' b hR' hc' hTab hT
  rwa [Int.toNat_of_nonneg h0, Int.toNat_of_nonneg h2] at h
end Go.Proofs.YtieipnnpkngegaaDoor
