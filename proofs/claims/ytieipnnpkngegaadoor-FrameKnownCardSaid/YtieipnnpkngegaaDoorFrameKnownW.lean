/- The walk of the law FrameKnown. -/
import Derived.Test.YtieipnnpkngegaaDoorDk
import Derived.Test.YtieipnnpkngegaaDoorFt
import Derived.Test.YtieipnnpkngegaaDoorDw
import Derived.IntWalk
namespace Go.Proofs.YtieipnnpkngegaaDoor
open Go.RowKit Go.Proofs.YtieipnnpkngegaaDoorW.PrintWords

theorem rd_made {W : World} {m b n : Nat} {t : Nat} (h : W.ownsRow m t 1 (.slice (some ⟨b, 0, none⟩) n n) n (encs B8 (List.replicate n 0))) (ht : t = 5 := by rfl) : Rd W (some ⟨b, 0, none⟩) n (List.replicate n 0) := by
  subst ht
  have h' : Ow W m (.slice (some ⟨b, 0, none⟩) n n) (List.replicate n 0) := by unfold Ow; rw [List.length_replicate]; exact h
  obtain ⟨A9, c9, e9, _, hr9⟩ := h'.rd
  injection e9 with e1 e2 e3
  subst e1
  rwa [List.length_replicate] at hr9
theorem rd_zeros (W : World) (n : Nat) (hn : n ≤ 9223372036854775807) (b : Nat) (hb : b = W.heap.size) : Rd (W.alloc (.cells (madeCells #[.int .u8 0] n) 5)) (some ⟨b, 0, none⟩) n (List.replicate n 0) := by
  subst hb
  exact
  rd_made (own_made_of (enc := B8) (d := 0) W W.heap.size 5 n (Nat.le_refl _) hn)
theorem d36 : decE (List.replicate 36 0) = 5 := by decide +kernel
theorem d35 : decE (List.replicate 35 0) = 11 := by decide +kernel
/-- Decode of what is no datagram. -/
theorem dec_bad (w : World) (A : Option Addr) (n c : Nat) (l : List UInt8) (E : Int) (hE : decE l = E) (h0 : E ≠ 0) (hR : Rd w A n l) (hc : n ≤ c) (hn : n ≤ 140737488355328) (hT : MayT w) (hTab : Tabb w) :
    Calls Tryd.prog 53 #[.slice A n c] w fun x w' => ∃ Ar cr, x = .returned (.tuple #[.agg #[.int .u8 0, .int .u32 0, .int .u32 0, .int .u32 0, .int .u32 0, .int .u32 0, .slice Ar 0 cr], .int .u64 0, .int .i64 E]) ∧ Keeps No w w' := by
  have h := decode_any w A n c l hR hc hn hT hTab
  unfold DecEnd at h
  rw [decF_bad (by rw [hE]; exact h0), decT_bad (by rw [hE]; exact h0), hE] at h
  refine h.mono ?_
  rintro e w' ⟨r, he, hp⟩
  obtain ⟨Ar, cr, rfl, _, _⟩ := hp.row.rd
  exact ⟨Ar, cr, he, hp.keeps⟩
set_option linter.unusedSimpArgs false in
set_option maxRecDepth 100000 in
set_option maxHeartbeats 25600000 in
theorem frameKnown_walk (w : World) (hTab : Tabb w) (hT : MayT w) : Calls Tryd.prog 12 #[] w fun e w' => e = .returned (.bool true) ∧ Keeps No w w' := by
  have HT := Lib.hid hT
  have HTB := Lib.hid hTab
  clear hT hTab
  have hmk : ∀ W : World, (Instr.makeSlice 22 (.int .i64 257) (.int .i64 257)).run Tryd.prog W = .ok (.slice (some ⟨W.heap.size, 0, none⟩) 257 257) (W.alloc (.cells (madeCells #[.int .u8 0] 257) 5)) := print_make 22 5 .u8 1 Tryd.underlying22 Tryd.info5 (by decide) 257 (by decide)
  have hown := own_made_of (enc := B8) (d := 0) w w.heap.size 5 257 (Nat.le_refl _) (by omega)
  have ha := (Keeps.refl No w).alloc (.cells (madeCells #[.int .u8 0] 257) 5)
  go_enter Tryd.func12, Tryd.ntmps12
  go_wp2
  obtain ⟨w1, hw1⟩ : ∃ w1, w1 = (w.alloc (.cells (madeCells #[.int .u8 0] 257) 5)).alloc (.cells #[.int .u8 0, .int .u32 0, .int .u32 0, .int .u32 0, .int .u32 0, .int .u32 0, .slice none 0 0, .int .u8 6, .int .u32 0, .int .u32 0, .int .u32 0, .int .u32 0, .int .u32 0, .slice none 0 0, .int .u8 3, .int .u32 0, .int .u32 0, .int .u32 0, .int .u32 0, .int .u32 0, .slice (some ⟨w.heap.size, 0, none⟩) 257 257, .int .u8 3, .int .u32 0, .int .u32 0, .int .u32 2147483648, .int .u32 0, .int .u32 0, .slice none 0 0, .int .u8 4, .int .u32 0, .int .u32 0, .int .u32 1, .int .u32 0, .int .u32 0, .slice none 0 0, .int .u8 4, .int .u32 0, .int .u32 0, .int .u32 0, .int .u32 0, .int .u32 0, .slice (some ⟨w.heap.size, 0, none⟩) 1 257, .int .u8 1, .int .u32 0, .int .u32 0, .int .u32 1, .int .u32 0, .int .u32 0, .slice none 0 0, .int .u8 2, .int .u32 0, .int .u32 0, .int .u32 0, .int .u32 1, .int .u32 0, .slice none 0 0, .int .u8 5, .int .u32 0, .int .u32 0, .int .u32 0, .int .u32 0, .int .u32 1, .slice none 0 0] 68) := ⟨_, rfl⟩
  rw [← hw1]
  have K1 := Lib.hid (show Keeps No w w1 from by rw [hw1]; exact ha.alloc _)
  have HB := Lib.hid (show w1.heap[w.heap.size + 1]? = some (.cells #[.int .u8 0, .int .u32 0, .int .u32 0, .int .u32 0, .int .u32 0, .int .u32 0, .slice none 0 0, .int .u8 6, .int .u32 0, .int .u32 0, .int .u32 0, .int .u32 0, .int .u32 0, .slice none 0 0, .int .u8 3, .int .u32 0, .int .u32 0, .int .u32 0, .int .u32 0, .int .u32 0, .slice (some ⟨w.heap.size, 0, none⟩) 257 257, .int .u8 3, .int .u32 0, .int .u32 0, .int .u32 2147483648, .int .u32 0, .int .u32 0, .slice none 0 0, .int .u8 4, .int .u32 0, .int .u32 0, .int .u32 1, .int .u32 0, .int .u32 0, .slice none 0 0, .int .u8 4, .int .u32 0, .int .u32 0, .int .u32 0, .int .u32 0, .int .u32 0, .slice (some ⟨w.heap.size, 0, none⟩) 1 257, .int .u8 1, .int .u32 0, .int .u32 0, .int .u32 1, .int .u32 0, .int .u32 0, .slice none 0 0, .int .u8 2, .int .u32 0, .int .u32 0, .int .u32 0, .int .u32 1, .int .u32 0, .slice none 0 0, .int .u8 5, .int .u32 0, .int .u32 0, .int .u32 0, .int .u32 0, .int .u32 1, .slice none 0 0] 68 (0, 0)) from by
    rw [hw1]
    have h := heap_alloc_new (w.alloc (.cells (madeCells #[.int .u8 0] 257) 5)) (.cells #[.int .u8 0, .int .u32 0, .int .u32 0, .int .u32 0, .int .u32 0, .int .u32 0, .slice none 0 0, .int .u8 6, .int .u32 0, .int .u32 0, .int .u32 0, .int .u32 0, .int .u32 0, .slice none 0 0, .int .u8 3, .int .u32 0, .int .u32 0, .int .u32 0, .int .u32 0, .int .u32 0, .slice (some ⟨w.heap.size, 0, none⟩) 257 257, .int .u8 3, .int .u32 0, .int .u32 0, .int .u32 2147483648, .int .u32 0, .int .u32 0, .slice none 0 0, .int .u8 4, .int .u32 0, .int .u32 0, .int .u32 1, .int .u32 0, .int .u32 0, .slice none 0 0, .int .u8 4, .int .u32 0, .int .u32 0, .int .u32 0, .int .u32 0, .int .u32 0, .slice (some ⟨w.heap.size, 0, none⟩) 1 257, .int .u8 1, .int .u32 0, .int .u32 0, .int .u32 1, .int .u32 0, .int .u32 0, .slice none 0 0, .int .u8 2, .int .u32 0, .int .u32 0, .int .u32 0, .int .u32 1, .int .u32 0, .slice none 0 0, .int .u8 5, .int .u32 0, .int .u32 0, .int .u32 0, .int .u32 0, .int .u32 1, .slice none 0 0] 68)
    rwa [World.size_alloc] at h)
  have HL := Lib.hid (show Rd w1 (some ⟨w.heap.size, 0, none⟩) 257 (List.replicate 257 0) from by
    rw [hw1]
    obtain ⟨A9, c9, e9, _, hr9⟩ := (show Ow (w.alloc (.cells (madeCells #[.int .u8 0] 257) 5)) w.heap.size (.slice (some ⟨w.heap.size, 0, none⟩) 257 257) (List.replicate 257 0) from hown).rd
    injection e9 with e1 e2 e3
    subst e1
    exact ((Keeps.refl No _).alloc _).rdNo hr9)
  have HRt := Lib.hid (show Rd w1 (some ⟨w.heap.size, 1, none⟩) 256 (List.replicate 256 0) from by
    have h := HL.out.drop 1 (by omega) (c := 257) (by omega)
    rw [if_neg (by omega)] at h
    exact h)
  have HTW := Lib.hid (HT.out.keptNo K1.out)
  have HTBW := Lib.hid (HTB.out.keptNo K1.out)
  clear hw1 ha hown hmk
  have hel : ∀ k < 9, ∃ (f : Frm) (A : Option Addr) (c : Nat), f.Ok ∧ mayB f = false ∧ f.pl.length ≤ c ∧ Rd w1 A f.pl.length f.pl ∧ (∀ W, Keeps No w1 W → ∀ j v, (f.cs (.slice A f.pl.length c))[j]? = some v → W.cell? ⟨w.heap.size + 1, k * 7 + j, none⟩ = some v) := by
    intro k hk
    rcases (show k = 0 ∨ k = 1 ∨ k = 2 ∨ k = 3 ∨ k = 4 ∨ k = 5 ∨ k = 6 ∨ k = 7 ∨ k = 8 by omega) with rfl | rfl | rfl | rfl | rfl | rfl | rfl | rfl | rfl
    · refine ⟨⟨0, 0, 0, 0, 0, 0, []⟩, none, 0, ⟨by decide, by decide, by decide, by decide, by decide, by decide⟩, by decide, by simp, Rd.nil _, ?_⟩
      intro W kp j v hv
      rw [blk_cell (kp.heap HB.out (fun h => h))]
      match j with
      | 0 | 1 | 2 | 3 | 4 | 5 | 6 => simpa [Frm.cs] using hv
      | j + 7 => simp [Frm.cs] at hv
    · refine ⟨⟨6, 0, 0, 0, 0, 0, []⟩, none, 0, ⟨by decide, by decide, by decide, by decide, by decide, by decide⟩, by decide, by simp, Rd.nil _, ?_⟩
      intro W kp j v hv
      rw [blk_cell (kp.heap HB.out (fun h => h))]
      match j with
      | 0 | 1 | 2 | 3 | 4 | 5 | 6 => simpa [Frm.cs] using hv
      | j + 7 => simp [Frm.cs] at hv
    · refine ⟨⟨3, 0, 0, 0, 0, 0, List.replicate 257 0⟩, some ⟨w.heap.size, 0, none⟩, 257, ⟨by decide, by decide, by decide, by decide, by decide, by decide⟩, by decide, by simp, (by have h := HL.out.take 257 (by omega); simpa using h), ?_⟩
      intro W kp j v hv
      rw [blk_cell (kp.heap HB.out (fun h => h))]
      match j with
      | 0 | 1 | 2 | 3 | 4 | 5 | 6 => simpa [Frm.cs] using hv
      | j + 7 => simp [Frm.cs] at hv
    · refine ⟨⟨3, 0, 0, 2147483648, 0, 0, []⟩, none, 0, ⟨by decide, by decide, by decide, by decide, by decide, by decide⟩, by decide, by simp, Rd.nil _, ?_⟩
      intro W kp j v hv
      rw [blk_cell (kp.heap HB.out (fun h => h))]
      match j with
      | 0 | 1 | 2 | 3 | 4 | 5 | 6 => simpa [Frm.cs] using hv
      | j + 7 => simp [Frm.cs] at hv
    · refine ⟨⟨4, 0, 0, 1, 0, 0, []⟩, none, 0, ⟨by decide, by decide, by decide, by decide, by decide, by decide⟩, by decide, by simp, Rd.nil _, ?_⟩
      intro W kp j v hv
      rw [blk_cell (kp.heap HB.out (fun h => h))]
      match j with
      | 0 | 1 | 2 | 3 | 4 | 5 | 6 => simpa [Frm.cs] using hv
      | j + 7 => simp [Frm.cs] at hv
    · refine ⟨⟨4, 0, 0, 0, 0, 0, List.replicate 1 0⟩, some ⟨w.heap.size, 0, none⟩, 257, ⟨by decide, by decide, by decide, by decide, by decide, by decide⟩, by decide, by simp, (by have h := HL.out.take 1 (by omega); simpa using h), ?_⟩
      intro W kp j v hv
      rw [blk_cell (kp.heap HB.out (fun h => h))]
      match j with
      | 0 | 1 | 2 | 3 | 4 | 5 | 6 => simpa [Frm.cs] using hv
      | j + 7 => simp [Frm.cs] at hv
    · refine ⟨⟨1, 0, 0, 1, 0, 0, []⟩, none, 0, ⟨by decide, by decide, by decide, by decide, by decide, by decide⟩, by decide, by simp, Rd.nil _, ?_⟩
      intro W kp j v hv
      rw [blk_cell (kp.heap HB.out (fun h => h))]
      match j with
      | 0 | 1 | 2 | 3 | 4 | 5 | 6 => simpa [Frm.cs] using hv
      | j + 7 => simp [Frm.cs] at hv
    · refine ⟨⟨2, 0, 0, 0, 1, 0, []⟩, none, 0, ⟨by decide, by decide, by decide, by decide, by decide, by decide⟩, by decide, by simp, Rd.nil _, ?_⟩
      intro W kp j v hv
      rw [blk_cell (kp.heap HB.out (fun h => h))]
      match j with
      | 0 | 1 | 2 | 3 | 4 | 5 | 6 => simpa [Frm.cs] using hv
      | j + 7 => simp [Frm.cs] at hv
    · refine ⟨⟨5, 0, 0, 0, 0, 1, []⟩, none, 0, ⟨by decide, by decide, by decide, by decide, by decide, by decide⟩, by decide, by simp, Rd.nil _, ?_⟩
      intro W kp j v hv
      rw [blk_cell (kp.heap HB.out (fun h => h))]
      match j with
      | 0 | 1 | 2 | 3 | 4 | 5 | 6 => simpa [Frm.cs] using hv
      | j + 7 => simp [Frm.cs] at hv
  have HEL := Lib.hid hel
  clear hel
  go_loopw [34] (fun iv wr => ∃ k : Nat, k ≤ 9 ∧ iv = .int .i64 k ∧ Keeps No w1 wr) (fun i _ => 9 - (intOf i).toNat)
  case atStart => exact ⟨0, by omega, rfl, Keeps.refl _ _⟩
  case round =>
    obtain ⟨k, hk, rfl, hkr⟩ := hrel
    have KR := Lib.hid hkr
    clear hkr
    by_cases hlt : k < 9
    · skip
      obtain ⟨f, A, c, hok, hmay, hlc, hrd, hcl⟩ := HEL.out k hlt
      have HR := Lib.hid (KR.out.rdNo hrd)
      have HOK := Lib.hid hok
      have HMAY := Lib.hid hmay
      obtain ⟨f0, f1, f2, f3, f4, f5, fpl⟩ := f
      simp only [Frm.cs] at hlc hcl
      have a0 : wr.cell? ⟨w.heap.size + 1, k * 7, none⟩ = some (.int .u8 f0) := hcl wr KR.out 0 _ rfl
      have a1 : wr.cell? ⟨w.heap.size + 1, k * 7 + 1, none⟩ = some (.int .u32 f1) := hcl wr KR.out 1 _ rfl
      have a2 : wr.cell? ⟨w.heap.size + 1, k * 7 + 2, none⟩ = some (.int .u32 f2) := hcl wr KR.out 2 _ rfl
      have a3 : wr.cell? ⟨w.heap.size + 1, k * 7 + 3, none⟩ = some (.int .u32 f3) := hcl wr KR.out 3 _ rfl
      have a4 : wr.cell? ⟨w.heap.size + 1, k * 7 + 4, none⟩ = some (.int .u32 f4) := hcl wr KR.out 4 _ rfl
      have a5 : wr.cell? ⟨w.heap.size + 1, k * 7 + 5, none⟩ = some (.int .u32 f5) := hcl wr KR.out 5 _ rfl
      have a6 : wr.cell? ⟨w.heap.size + 1, k * 7 + 6, none⟩ = some (.slice A fpl.length c) := hcl wr KR.out 6 _ rfl
      clear hok hmay hrd hcl
      have hnb := heap_alloc_new wr (.cells #[.int .u8 f0, .int .u32 f1, .int .u32 f2, .int .u32 f3, .int .u32 f4, .int .u32 f5, .slice A fpl.length c] 68)
      have hka := (Keeps.refl No wr).alloc (.cells #[.int .u8 f0, .int .u32 f1, .int .u32 f2, .int .u32 f3, .int .u32 f4, .int .u32 f5, .slice A fpl.length c] 68)
      go_wp2_with fail
      have KA := Lib.hid (KR.out.then hka)
      have HNB := Lib.hid hnb
      have HRA := Lib.hid (hka.rdNo HR.out)
      clear hnb hka a0 a1 a2 a3 a4 a5 a6
      generalize wr.alloc (.cells #[.int .u8 f0, .int .u32 f1, .int .u32 f2, .int .u32 f3, .int .u32 f4, .int .u32 f5, .slice A fpl.length c] 68) = wa at *
      have HE := Lib.hid (show Calls Tryd.prog 42 #[.agg #[.int .u8 f0, .int .u32 f1, .int .u32 f2, .int .u32 f3, .int .u32 f4, .int .u32 f5, .slice A fpl.length c], .int .u64 0] wa (fun x W' => ∃ r, x = .returned (.tuple #[r, .int .i64 1]) ∧ Keeps No wa W') from by
        have h := encode_any wa ⟨f0, f1, f2, f3, f4, f5, fpl⟩ HOK.out A c HRA.out (HTW.out.keptNo KA.out) 0 (by decide) (HTBW.out.keptNo KA.out)
        refine h.mono ?_
        rintro e W' ⟨r, he, hp⟩
        rw [show errE ⟨f0, f1, f2, f3, f4, f5, fpl⟩ = 1 from by unfold errE; rw [HMAY.out]; rfl] at he
        exact ⟨r, he, hp.keeps⟩)
      refine HE.out.mono ?_
      rintro e wb ⟨r, rfl, hb⟩
      have KB := Lib.hid (KA.out.then hb)
      have HB2 := Lib.hid (hb.heap HNB.out (fun h => h))
      have HRB := Lib.hid (hb.rdNo HRA.out)
      clear hb HE
      have a0 : wb.cell? ⟨wr.heap.size, 0, none⟩ = some (.int .u8 f0) := by rw [blk_cell HB2.out]; rfl
      have a1 : wb.cell? ⟨wr.heap.size, 1, none⟩ = some (.int .u32 f1) := by rw [blk_cell HB2.out]; rfl
      have a2 : wb.cell? ⟨wr.heap.size, 2, none⟩ = some (.int .u32 f2) := by rw [blk_cell HB2.out]; rfl
      have a3 : wb.cell? ⟨wr.heap.size, 3, none⟩ = some (.int .u32 f3) := by rw [blk_cell HB2.out]; rfl
      have a4 : wb.cell? ⟨wr.heap.size, 4, none⟩ = some (.int .u32 f4) := by rw [blk_cell HB2.out]; rfl
      have a5 : wb.cell? ⟨wr.heap.size, 5, none⟩ = some (.int .u32 f5) := by rw [blk_cell HB2.out]; rfl
      have a6 : wb.cell? ⟨wr.heap.size, 6, none⟩ = some (.slice A fpl.length c) := by rw [blk_cell HB2.out]; rfl
      have HM := Lib.hid (show Calls Tryd.prog 44 #[.agg #[.int .u8 f0, .int .u32 f1, .int .u32 f2, .int .u32 f3, .int .u32 f4, .int .u32 f5, .slice A fpl.length c]] wb (fun e w' => e = .returned (.bool false) ∧ Keeps No wb w') from by
        have h := may_any wb ⟨f0, f1, f2, f3, f4, f5, fpl⟩ HOK.out A c (HTW.out.keptNo KB.out)
        rw [HMAY.out] at h
        exact h)
      go_wp2_with fail
      refine HM.out.mono ?_
      rintro e wc ⟨rfl, hc⟩
      have KC := Lib.hid (KB.out.then hc)
      have HB3 := Lib.hid (hc.heap HB2.out (fun h => h))
      have HRC := Lib.hid (hc.rdNo HRB.out)
      clear hc HM a0 a1 a2 a3 a4 a5 a6
      have HS := Lib.hid (show Calls Tryd.prog 46 #[.agg #[.int .u8 f0, .int .u32 f1, .int .u32 f2, .int .u32 f3, .int .u32 f4, .int .u32 f5, .slice A fpl.length c]] wc (CEnd wc []) from by
        have h := signed_any wc ⟨f0, f1, f2, f3, f4, f5, fpl⟩ HOK.out A c HRC.out (HTW.out.keptNo KC.out)
        rw [show sigL ⟨f0, f1, f2, f3, f4, f5, fpl⟩ = [] from by unfold sigL; rw [HMAY.out]; rfl] at h
        exact h)
      have a0 : wc.cell? ⟨wr.heap.size, 0, none⟩ = some (.int .u8 f0) := by rw [blk_cell HB3.out]; rfl
      have a1 : wc.cell? ⟨wr.heap.size, 1, none⟩ = some (.int .u32 f1) := by rw [blk_cell HB3.out]; rfl
      have a2 : wc.cell? ⟨wr.heap.size, 2, none⟩ = some (.int .u32 f2) := by rw [blk_cell HB3.out]; rfl
      have a3 : wc.cell? ⟨wr.heap.size, 3, none⟩ = some (.int .u32 f3) := by rw [blk_cell HB3.out]; rfl
      have a4 : wc.cell? ⟨wr.heap.size, 4, none⟩ = some (.int .u32 f4) := by rw [blk_cell HB3.out]; rfl
      have a5 : wc.cell? ⟨wr.heap.size, 5, none⟩ = some (.int .u32 f5) := by rw [blk_cell HB3.out]; rfl
      have a6 : wc.cell? ⟨wr.heap.size, 6, none⟩ = some (.slice A fpl.length c) := by rw [blk_cell HB3.out]; rfl
      go_wp2_with fail
      refine HS.out.mono ?_
      rintro e wd ⟨r, rfl, hd⟩
      obtain ⟨Ad, cd, rfl, _, _⟩ := hd.row.rd
      have KD := Lib.hid (KC.out.then hd.keeps)
      clear hd HS a0 a1 a2 a3 a4 a5 a6
      go_wp2
      go_roundw
      case rel => exact ⟨k + 1, by omega, by go_num, KD.out⟩
      case measure => simp [intOf]; omega
    · obtain rfl : k = 9 := by omega
      go_wp2
      clear hk hlt
      go_region
      go_wp2
      obtain ⟨wp, rfl⟩ : ∃ wp : World, wp = wr := ⟨_, rfl⟩
      obtain ⟨w2, hw2⟩ : ∃ w2, w2 = (wp.alloc (.cells #[.int .u8 1, .int .u32 0, .int .u32 0, .int .u32 0, .int .u32 0, .int .u32 0, .slice (some ⟨w.heap.size, 1, none⟩) 256 256, .int .u8 2, .int .u32 2147483648, .int .u32 0, .int .u32 0, .int .u32 0, .int .u32 0, .slice none 0 0, .int .u8 3, .int .u32 0, .int .u32 0, .int .u32 2147483647, .int .u32 4294967295, .int .u32 4294967295, .slice (some ⟨w.heap.size, 1, none⟩) 256 256, .int .u8 4, .int .u32 0, .int .u32 0, .int .u32 0, .int .u32 9, .int .u32 0, .slice none 0 0, .int .u8 5, .int .u32 0, .int .u32 0, .int .u32 0, .int .u32 0, .int .u32 0, .slice none 0 0] 68)).drew := ⟨_, rfl⟩
      rw [← hw2]
      have K2 := Lib.hid (show Keeps No w1 w2 from by rw [hw2]; exact (KR.out.alloc _).drew)
      have HB' := Lib.hid (show w2.heap[wp.heap.size]? = some (.cells #[.int .u8 1, .int .u32 0, .int .u32 0, .int .u32 0, .int .u32 0, .int .u32 0, .slice (some ⟨w.heap.size, 1, none⟩) 256 256, .int .u8 2, .int .u32 2147483648, .int .u32 0, .int .u32 0, .int .u32 0, .int .u32 0, .slice none 0 0, .int .u8 3, .int .u32 0, .int .u32 0, .int .u32 2147483647, .int .u32 4294967295, .int .u32 4294967295, .slice (some ⟨w.heap.size, 1, none⟩) 256 256, .int .u8 4, .int .u32 0, .int .u32 0, .int .u32 0, .int .u32 9, .int .u32 0, .slice none 0 0, .int .u8 5, .int .u32 0, .int .u32 0, .int .u32 0, .int .u32 0, .int .u32 0, .slice none 0 0] 68 (0, 0)) from by rw [hw2]; exact heap_alloc_new wp (.cells #[.int .u8 1, .int .u32 0, .int .u32 0, .int .u32 0, .int .u32 0, .int .u32 0, .slice (some ⟨w.heap.size, 1, none⟩) 256 256, .int .u8 2, .int .u32 2147483648, .int .u32 0, .int .u32 0, .int .u32 0, .int .u32 0, .slice none 0 0, .int .u8 3, .int .u32 0, .int .u32 0, .int .u32 2147483647, .int .u32 4294967295, .int .u32 4294967295, .slice (some ⟨w.heap.size, 1, none⟩) 256 256, .int .u8 4, .int .u32 0, .int .u32 0, .int .u32 0, .int .u32 9, .int .u32 0, .slice none 0 0, .int .u8 5, .int .u32 0, .int .u32 0, .int .u32 0, .int .u32 0, .int .u32 0, .slice none 0 0] 68))
      clear hw2
      have HL2 := Lib.hid (K2.out.rdNo HRt.out)
      have K12 := Lib.hid (K1.out.then K2.out)
      clear HTW HTBW HEL HRt HL HB KR
      have HTW := Lib.hid (HT.out.keptNo K12.out)
      have HTBW := Lib.hid (HTB.out.keptNo K12.out)
      have hel : ∀ k < 5, ∃ (f : Frm) (A : Option Addr) (c : Nat), f.Ok ∧ mayB f = true ∧ f.pl.length ≤ c ∧ Rd w2 A f.pl.length f.pl ∧ (∀ W, Keeps No w2 W → ∀ j v, (f.cs (.slice A f.pl.length c))[j]? = some v → W.cell? ⟨wp.heap.size, k * 7 + j, none⟩ = some v) := by
        intro k hk
        rcases (show k = 0 ∨ k = 1 ∨ k = 2 ∨ k = 3 ∨ k = 4 by omega) with rfl | rfl | rfl | rfl | rfl
        · refine ⟨⟨1, 0, 0, 0, 0, 0, List.replicate 256 0⟩, some ⟨w.heap.size, 1, none⟩, 256, ⟨by decide, by decide, by decide, by decide, by decide, by decide⟩, by decide, by simp, (by simpa using HL2.out), ?_⟩
          intro W kp j v hv
          rw [blk_cell (kp.heap HB'.out (fun h => h))]
          match j with
          | 0 | 1 | 2 | 3 | 4 | 5 | 6 => simpa [Frm.cs] using hv
          | j + 7 => simp [Frm.cs] at hv
        · refine ⟨⟨2, 2147483648, 0, 0, 0, 0, []⟩, none, 0, ⟨by decide, by decide, by decide, by decide, by decide, by decide⟩, by decide, by simp, Rd.nil _, ?_⟩
          intro W kp j v hv
          rw [blk_cell (kp.heap HB'.out (fun h => h))]
          match j with
          | 0 | 1 | 2 | 3 | 4 | 5 | 6 => simpa [Frm.cs] using hv
          | j + 7 => simp [Frm.cs] at hv
        · refine ⟨⟨3, 0, 0, 2147483647, 4294967295, 4294967295, List.replicate 256 0⟩, some ⟨w.heap.size, 1, none⟩, 256, ⟨by decide, by decide, by decide, by decide, by decide, by decide⟩, by decide, by simp, (by simpa using HL2.out), ?_⟩
          intro W kp j v hv
          rw [blk_cell (kp.heap HB'.out (fun h => h))]
          match j with
          | 0 | 1 | 2 | 3 | 4 | 5 | 6 => simpa [Frm.cs] using hv
          | j + 7 => simp [Frm.cs] at hv
        · refine ⟨⟨4, 0, 0, 0, 9, 0, []⟩, none, 0, ⟨by decide, by decide, by decide, by decide, by decide, by decide⟩, by decide, by simp, Rd.nil _, ?_⟩
          intro W kp j v hv
          rw [blk_cell (kp.heap HB'.out (fun h => h))]
          match j with
          | 0 | 1 | 2 | 3 | 4 | 5 | 6 => simpa [Frm.cs] using hv
          | j + 7 => simp [Frm.cs] at hv
        · refine ⟨⟨5, 0, 0, 0, 0, 0, []⟩, none, 0, ⟨by decide, by decide, by decide, by decide, by decide, by decide⟩, by decide, by simp, Rd.nil _, ?_⟩
          intro W kp j v hv
          rw [blk_cell (kp.heap HB'.out (fun h => h))]
          match j with
          | 0 | 1 | 2 | 3 | 4 | 5 | 6 => simpa [Frm.cs] using hv
          | j + 7 => simp [Frm.cs] at hv
      have HEL := Lib.hid hel
      clear hel
      go_loopw [67] (fun iv wr => ∃ k : Nat, k ≤ 5 ∧ iv = .int .i64 k ∧ Keeps No w2 wr) (fun i _ => 5 - (intOf i).toNat)
      case atStart => exact ⟨0, by omega, rfl, Keeps.refl _ _⟩
      case round =>
        obtain ⟨k, hk, rfl, hkr⟩ := hrel
        have KR := Lib.hid hkr
        clear hkr
        by_cases hlt : k < 5
        · skip
          obtain ⟨f, A, c, hok, hmay, hlc, hrd, hcl⟩ := HEL.out k hlt
          have HR := Lib.hid (KR.out.rdNo hrd)
          have HOK := Lib.hid hok
          have HMAY := Lib.hid hmay
          obtain ⟨f0, f1, f2, f3, f4, f5, fpl⟩ := f
          simp only [Frm.cs] at hlc hcl
          have a0 : wr.cell? ⟨wp.heap.size, k * 7, none⟩ = some (.int .u8 f0) := hcl wr KR.out 0 _ rfl
          have a1 : wr.cell? ⟨wp.heap.size, k * 7 + 1, none⟩ = some (.int .u32 f1) := hcl wr KR.out 1 _ rfl
          have a2 : wr.cell? ⟨wp.heap.size, k * 7 + 2, none⟩ = some (.int .u32 f2) := hcl wr KR.out 2 _ rfl
          have a3 : wr.cell? ⟨wp.heap.size, k * 7 + 3, none⟩ = some (.int .u32 f3) := hcl wr KR.out 3 _ rfl
          have a4 : wr.cell? ⟨wp.heap.size, k * 7 + 4, none⟩ = some (.int .u32 f4) := hcl wr KR.out 4 _ rfl
          have a5 : wr.cell? ⟨wp.heap.size, k * 7 + 5, none⟩ = some (.int .u32 f5) := hcl wr KR.out 5 _ rfl
          have a6 : wr.cell? ⟨wp.heap.size, k * 7 + 6, none⟩ = some (.slice A fpl.length c) := hcl wr KR.out 6 _ rfl
          clear hok hmay hrd hcl
          have hnb := heap_alloc_new wr (.cells #[.int .u8 f0, .int .u32 f1, .int .u32 f2, .int .u32 f3, .int .u32 f4, .int .u32 f5, .slice A fpl.length c] 68)
          have hka := (Keeps.refl No wr).alloc (.cells #[.int .u8 f0, .int .u32 f1, .int .u32 f2, .int .u32 f3, .int .u32 f4, .int .u32 f5, .slice A fpl.length c] 68)
          go_wp2_with fail
          have KA := Lib.hid (KR.out.then hka)
          have HNB := Lib.hid hnb
          have HRA := Lib.hid (hka.rdNo HR.out)
          clear hnb hka a0 a1 a2 a3 a4 a5 a6
          generalize wr.alloc (.cells #[.int .u8 f0, .int .u32 f1, .int .u32 f2, .int .u32 f3, .int .u32 f4, .int .u32 f5, .slice A fpl.length c] 68) = wa at *
          have HE := Lib.hid (show Calls Tryd.prog 42 #[.agg #[.int .u8 f0, .int .u32 f1, .int .u32 f2, .int .u32 f3, .int .u32 f4, .int .u32 f5, .slice A fpl.length c], .int .u64 9223372036854775808] wa (fun x W' => ∃ r, x = .returned (.tuple #[r, .int .i64 0]) ∧ Keeps No wa W') from by
            have h := encode_any wa ⟨f0, f1, f2, f3, f4, f5, fpl⟩ HOK.out A c HRA.out (HTW.out.keptNo KA.out) 9223372036854775808 (by decide) (HTBW.out.keptNo KA.out)
            refine h.mono ?_
            rintro e W' ⟨r, he, hp⟩
            rw [show errE ⟨f0, f1, f2, f3, f4, f5, fpl⟩ = 0 from by unfold errE; rw [HMAY.out]; rfl] at he
            exact ⟨r, he, hp.keeps⟩)
          refine HE.out.mono ?_
          rintro e wb ⟨r, rfl, hb⟩
          have KB := Lib.hid (KA.out.then hb)
          have HB2 := Lib.hid (hb.heap HNB.out (fun h => h))
          have HRB := Lib.hid (hb.rdNo HRA.out)
          clear hb HE
          have a0 : wb.cell? ⟨wr.heap.size, 0, none⟩ = some (.int .u8 f0) := by rw [blk_cell HB2.out]; rfl
          have a1 : wb.cell? ⟨wr.heap.size, 1, none⟩ = some (.int .u32 f1) := by rw [blk_cell HB2.out]; rfl
          have a2 : wb.cell? ⟨wr.heap.size, 2, none⟩ = some (.int .u32 f2) := by rw [blk_cell HB2.out]; rfl
          have a3 : wb.cell? ⟨wr.heap.size, 3, none⟩ = some (.int .u32 f3) := by rw [blk_cell HB2.out]; rfl
          have a4 : wb.cell? ⟨wr.heap.size, 4, none⟩ = some (.int .u32 f4) := by rw [blk_cell HB2.out]; rfl
          have a5 : wb.cell? ⟨wr.heap.size, 5, none⟩ = some (.int .u32 f5) := by rw [blk_cell HB2.out]; rfl
          have a6 : wb.cell? ⟨wr.heap.size, 6, none⟩ = some (.slice A fpl.length c) := by rw [blk_cell HB2.out]; rfl
          have HM := Lib.hid (show Calls Tryd.prog 44 #[.agg #[.int .u8 f0, .int .u32 f1, .int .u32 f2, .int .u32 f3, .int .u32 f4, .int .u32 f5, .slice A fpl.length c]] wb (fun e w' => e = .returned (.bool true) ∧ Keeps No wb w') from by
            have h := may_any wb ⟨f0, f1, f2, f3, f4, f5, fpl⟩ HOK.out A c (HTW.out.keptNo KB.out)
            rw [HMAY.out] at h
            exact h)
          go_wp2_with fail
          refine HM.out.mono ?_
          rintro e wc ⟨rfl, hc⟩
          have KC := Lib.hid (KB.out.then hc)
          have HB3 := Lib.hid (hc.heap HB2.out (fun h => h))
          have HRC := Lib.hid (hc.rdNo HRB.out)
          clear hc HM a0 a1 a2 a3 a4 a5 a6
          go_wp2
          go_roundw
          case rel => exact ⟨k + 1, by omega, by go_num, KC.out⟩
          case measure => simp [intOf]; omega
        · obtain rfl : k = 5 := by omega
          have K3 := Lib.hid (K12.out.then KR.out)
          clear HEL HTW HTBW HL2 HB' K2 K12 KR hk hlt
          obtain ⟨w3, rfl⟩ : ∃ w3 : World, w3 = wr := ⟨_, rfl⟩
          have hmk5 : ∀ W : World, (Instr.makeSlice 22 (.int .i64 35) (.int .i64 35)).run Tryd.prog W = .ok (.slice (some ⟨W.heap.size, 0, none⟩) 35 35) (W.alloc (.cells (madeCells #[.int .u8 0] 35) 5)) := print_make 22 5 .u8 1 Tryd.underlying22 Tryd.info5 (by decide) 35 (by decide)
          have hmk6 : ∀ W : World, (Instr.makeSlice 22 (.int .i64 36) (.int .i64 36)).run Tryd.prog W = .ok (.slice (some ⟨W.heap.size, 0, none⟩) 36 36) (W.alloc (.cells (madeCells #[.int .u8 0] 36) 5)) := print_make 22 5 .u8 1 Tryd.underlying22 Tryd.info5 (by decide) 36 (by decide)
          go_wp2_with fail
          refine (dec_bad w3 none 0 0 [] 4 rfl (by decide) (Rd.nil _) (by omega) (by omega) (HT.out.keptNo K3.out) (HTB.out.keptNo K3.out)).mono ?_
          rintro e w4 ⟨A4, c4, rfl, h4⟩
          have K4 := Lib.hid (K3.out.then h4)
          clear h4
          go_wp2_with fail
          have K5 := Lib.hid (K4.out.alloc (.cells #[.int .u8 0, .int .u32 0, .int .u32 0, .int .u32 0, .int .u32 0, .int .u32 0, .slice A4 0 c4] 68))
          have HS5 := Lib.hid (show w4.heap.size + 1 = (w4.alloc (.cells #[.int .u8 0, .int .u32 0, .int .u32 0, .int .u32 0, .int .u32 0, .int .u32 0, .slice A4 0 c4] 68)).heap.size from by simp)
          generalize w4.alloc (.cells #[.int .u8 0, .int .u32 0, .int .u32 0, .int .u32 0, .int .u32 0, .int .u32 0, .slice A4 0 c4] 68) = w5 at *
          refine (dec_bad (w5.alloc (.cells (madeCells #[.int .u8 0] 35) 5)) (some ⟨w4.heap.size + 1, 0, none⟩) 35 35 (List.replicate 35 0) 11 d35 (by decide) (rd_zeros w5 35 (by omega) _ HS5.out) (by omega) (by omega) (HT.out.keptNo (K5.out.alloc _)) (HTB.out.keptNo (K5.out.alloc _))).mono ?_
          rintro e w6 ⟨A6, c6, rfl, h6⟩
          have K6 := Lib.hid ((K5.out.alloc _).then h6)
          clear h6
          go_wp2_with fail
          have K7 := Lib.hid (K6.out.alloc (.cells #[.int .u8 0, .int .u32 0, .int .u32 0, .int .u32 0, .int .u32 0, .int .u32 0, .slice A6 0 c6] 68))
          have HS7 := Lib.hid (show w6.heap.size + 1 = (w6.alloc (.cells #[.int .u8 0, .int .u32 0, .int .u32 0, .int .u32 0, .int .u32 0, .int .u32 0, .slice A6 0 c6] 68)).heap.size from by simp)
          generalize w6.alloc (.cells #[.int .u8 0, .int .u32 0, .int .u32 0, .int .u32 0, .int .u32 0, .int .u32 0, .slice A6 0 c6] 68) = w7 at *
          refine (dec_bad (w7.alloc (.cells (madeCells #[.int .u8 0] 36) 5)) (some ⟨w6.heap.size + 1, 0, none⟩) 36 36 (List.replicate 36 0) 5 d36 (by decide) (rd_zeros w7 36 (by omega) _ HS7.out) (by omega) (by omega) (HT.out.keptNo (K7.out.alloc _)) (HTB.out.keptNo (K7.out.alloc _))).mono ?_
          rintro e w8 ⟨A8, c8, rfl, h8⟩
          have K8 := Lib.hid ((K7.out.alloc _).then h8)
          clear h8 hmk5 hmk6
          go_wp2_with fail
          have K9 := Lib.hid (K8.out.alloc (.cells #[.int .u8 0, .int .u32 0, .int .u32 0, .int .u32 0, .int .u32 0, .int .u32 0, .slice A8 0 c8] 68))
          refine (tells_any _ (HT.out.keptNo K9.out)).mono ?_
          rintro e wz ⟨rfl, hz⟩
          have KZ := Lib.hid (K9.out.then hz)
          clear hz
          go_wp2
          go_ret
          exact ⟨rfl, KZ.out⟩
end Go.Proofs.YtieipnnpkngegaaDoor
