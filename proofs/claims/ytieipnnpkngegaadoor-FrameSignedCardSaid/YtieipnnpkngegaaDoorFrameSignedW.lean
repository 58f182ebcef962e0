/- The walk of the law FrameSigned. -/
import Derived.Test.YtieipnnpkngegaaDoorDj
import Derived.Test.YtieipnnpkngegaaDoorFt
import Derived.Test.YtieipnnpkngegaaDoorDw
import Derived.IntWalk
namespace Go.Proofs.YtieipnnpkngegaaDoor
open Go.RowKit Go.Proofs.YtieipnnpkngegaaDoorW.PrintWords

theorem enc_eq (F : Frm) (h : mayB F = true) (t : Nat) : encL F t = layL F ++ be8 t ++ be4 (crcOf (layL F ++ be8 t)) := if_pos h
theorem enc_len (F : Frm) (h : mayB F = true) (t : Nat) : (encL F t).length = (layL F).length + 12 := by
  rw [enc_eq F h, List.length_append, List.length_append, be8_len, be4_len]
theorem enc_take (F : Frm) (h : mayB F = true) (t : Nat) : (encL F t).take (layL F).length = layL F := by
  rw [enc_eq F h, List.append_assoc, List.take_left']
  rfl
theorem enc_same (F : Frm) (h : mayB F = true) (t u : Nat) (ht : t < 18446744073709551616) (hu : u < 18446744073709551616) : decide (encL F t = encL F u) = decide (t = u) := by
  rw [Bool.eq_iff_iff, decide_eq_true_iff, decide_eq_true_iff]
  constructor
  · intro e
    rw [enc_eq F h, enc_eq F h] at e
    have e1 := (List.append_inj' e (by rw [be4_len, be4_len])).1
    exact be8_inj ht hu (List.append_inj' e1 (by rw [be8_len, be8_len])).2
  · rintro rfl; rfl
set_option linter.unusedSimpArgs false in
set_option maxRecDepth 100000 in
set_option maxHeartbeats 25600000 in
theorem frameSigned_walk (w : World) (f g : Frm) (hf : f.Ok) (hg : g.Ok) (A A' : Option Addr) (c c' : Nat) (hR : Rd w A f.pl.length f.pl) (hR' : Rd w A' g.pl.length g.pl) (hc : f.pl.length ≤ c) (hc' : g.pl.length ≤ c')
    (tag other : Nat) (htag : tag < 18446744073709551616) (hoth : other < 18446744073709551616) (hTab : Tabb w) (hT : MayT w) :
    Calls Tryd.prog 10 #[.agg (f.cs (.slice A f.pl.length c)), .agg (g.cs (.slice A' g.pl.length c')), .int .u64 tag, .int .u64 other] w fun e w' => e = .returned (.bool true) ∧ Keeps No w w' := by
  have HM1 := Lib.hid (show ∀ W, Calls Tryd.prog 49 #[.agg (f.cs (.slice A f.pl.length c))] W (fun x W' => ∃ A1 c1, x = .returned (.agg ((made f).cs (.slice A1 (made f).pl.length c1))) ∧ (∀ W0, Rd W0 A f.pl.length f.pl → Rd W0 A1 (made f).pl.length (made f).pl) ∧ (made f).pl.length ≤ c1 ∧ Keeps No W W') from fun W => made_any W f hf A c hc)
  have HM2 := Lib.hid (show ∀ W, Calls Tryd.prog 49 #[.agg (g.cs (.slice A' g.pl.length c'))] W (fun x W' => ∃ A1 c1, x = .returned (.agg ((made g).cs (.slice A1 (made g).pl.length c1))) ∧ (∀ W0, Rd W0 A' g.pl.length g.pl → Rd W0 A1 (made g).pl.length (made g).pl) ∧ (made g).pl.length ≤ c1 ∧ Keeps No W W') from fun W => made_any W g hg A' c' hc')
  have HFO := Lib.hid (made_ok f hf)
  have HGO := Lib.hid (made_ok g hg)
  have HFM := Lib.hid (made_may f)
  have hFL := made_len f
  have hGL := made_len g
  have HRF := Lib.hid hR
  have HRG := Lib.hid hR'
  have HT := Lib.hid hT
  have HTB := Lib.hid hTab
  have HGM := Lib.hid (made_may g)
  clear hR hR' hT hTab hf hg
  generalize made f = F at *
  generalize made g = G at *
  have HSX := Lib.hid (show sigL F = layL F from if_pos HFM.out)
  have HSY := Lib.hid (show sigL G = layL G from if_pos HGM.out)
  obtain ⟨f0, f1, f2, f3, f4, f5, fpl⟩ := f
  obtain ⟨g0, g1, g2, g3, g4, g5, gpl⟩ := g
  have HPD := Lib.hid (show ∃ P, P = F from ⟨_, rfl⟩)
  have HQD := Lib.hid (show ∃ P, P = G from ⟨_, rfl⟩)
  obtain ⟨p0, p1, p2, p3, p4, p5, ppl⟩ := F
  obtain ⟨q0, q1, q2, q3, q4, q5, qpl⟩ := G
  simp only [Frm.cs] at HM1 HM2 hFL hGL HRF HRG ⊢
  simp only at hc hc'
  go_enter Tryd.func10, Tryd.ntmps10
  have hk0 := ((Keeps.refl No w).alloc (.cells #[.int .u8 f0, .int .u32 f1, .int .u32 f2, .int .u32 f3, .int .u32 f4, .int .u32 f5, .slice A fpl.length c] 68)).alloc (.cells #[.int .u8 g0, .int .u32 g1, .int .u32 g2, .int .u32 g3, .int .u32 g4, .int .u32 g5, .slice A' gpl.length c'] 68)
  have hb1 := heap_alloc_new w (.cells #[.int .u8 f0, .int .u32 f1, .int .u32 f2, .int .u32 f3, .int .u32 f4, .int .u32 f5, .slice A fpl.length c] 68)
  have hb1' := ((Keeps.refl No (w.alloc (.cells #[.int .u8 f0, .int .u32 f1, .int .u32 f2, .int .u32 f3, .int .u32 f4, .int .u32 f5, .slice A fpl.length c] 68))).alloc (.cells #[.int .u8 g0, .int .u32 g1, .int .u32 g2, .int .u32 g3, .int .u32 g4, .int .u32 g5, .slice A' gpl.length c'] 68)).heap hb1 (fun h => h)
  have hb2 := heap_alloc_new (w.alloc (.cells #[.int .u8 f0, .int .u32 f1, .int .u32 f2, .int .u32 f3, .int .u32 f4, .int .u32 f5, .slice A fpl.length c] 68)) (.cells #[.int .u8 g0, .int .u32 g1, .int .u32 g2, .int .u32 g3, .int .u32 g4, .int .u32 g5, .slice A' gpl.length c'] 68)
  have hsz : (w.alloc (.cells #[.int .u8 f0, .int .u32 f1, .int .u32 f2, .int .u32 f3, .int .u32 f4, .int .u32 f5, .slice A fpl.length c] 68)).heap.size = w.heap.size + 1 := by simp
  rw [hsz] at hb2
  go_wp2_with fail
  generalize (w.alloc (.cells #[.int .u8 f0, .int .u32 f1, .int .u32 f2, .int .u32 f3, .int .u32 f4, .int .u32 f5, .slice A fpl.length c] 68)).alloc (.cells #[.int .u8 g0, .int .u32 g1, .int .u32 g2, .int .u32 g3, .int .u32 g4, .int .u32 g5, .slice A' gpl.length c'] 68) = wa at *
  have KA := Lib.hid hk0
  have HB1 := Lib.hid hb1'
  have HB2 := Lib.hid hb2
  clear hk0 hb1 hb1' hb2 hsz
  have a0 : ∀ W, Keeps No wa W → W.cell? ⟨w.heap.size, 0, none⟩ = some (.int .u8 f0) := fun W k => by rw [blk_cell (k.heap HB1.out (fun h => h))]; rfl
  have x0 : ∀ W, Keeps No wa W → W.frozen? ⟨w.heap.size, 0, none⟩ = false := fun W k => blk_frozen (k.heap HB1.out (fun h => h)) 0
  have a1 : ∀ W, Keeps No wa W → W.cell? ⟨w.heap.size, 1, none⟩ = some (.int .u32 f1) := fun W k => by rw [blk_cell (k.heap HB1.out (fun h => h))]; rfl
  have x1 : ∀ W, Keeps No wa W → W.frozen? ⟨w.heap.size, 1, none⟩ = false := fun W k => blk_frozen (k.heap HB1.out (fun h => h)) 1
  have a2 : ∀ W, Keeps No wa W → W.cell? ⟨w.heap.size, 2, none⟩ = some (.int .u32 f2) := fun W k => by rw [blk_cell (k.heap HB1.out (fun h => h))]; rfl
  have x2 : ∀ W, Keeps No wa W → W.frozen? ⟨w.heap.size, 2, none⟩ = false := fun W k => blk_frozen (k.heap HB1.out (fun h => h)) 2
  have a3 : ∀ W, Keeps No wa W → W.cell? ⟨w.heap.size, 3, none⟩ = some (.int .u32 f3) := fun W k => by rw [blk_cell (k.heap HB1.out (fun h => h))]; rfl
  have x3 : ∀ W, Keeps No wa W → W.frozen? ⟨w.heap.size, 3, none⟩ = false := fun W k => blk_frozen (k.heap HB1.out (fun h => h)) 3
  have a4 : ∀ W, Keeps No wa W → W.cell? ⟨w.heap.size, 4, none⟩ = some (.int .u32 f4) := fun W k => by rw [blk_cell (k.heap HB1.out (fun h => h))]; rfl
  have x4 : ∀ W, Keeps No wa W → W.frozen? ⟨w.heap.size, 4, none⟩ = false := fun W k => blk_frozen (k.heap HB1.out (fun h => h)) 4
  have a5 : ∀ W, Keeps No wa W → W.cell? ⟨w.heap.size, 5, none⟩ = some (.int .u32 f5) := fun W k => by rw [blk_cell (k.heap HB1.out (fun h => h))]; rfl
  have x5 : ∀ W, Keeps No wa W → W.frozen? ⟨w.heap.size, 5, none⟩ = false := fun W k => blk_frozen (k.heap HB1.out (fun h => h)) 5
  have a6 : ∀ W, Keeps No wa W → W.cell? ⟨w.heap.size, 6, none⟩ = some (.slice A fpl.length c) := fun W k => by rw [blk_cell (k.heap HB1.out (fun h => h))]; rfl
  have x6 : ∀ W, Keeps No wa W → W.frozen? ⟨w.heap.size, 6, none⟩ = false := fun W k => blk_frozen (k.heap HB1.out (fun h => h)) 6
  have b0 : ∀ W, Keeps No wa W → W.cell? ⟨w.heap.size + 1, 0, none⟩ = some (.int .u8 g0) := fun W k => by rw [blk_cell (k.heap HB2.out (fun h => h))]; rfl
  have y0 : ∀ W, Keeps No wa W → W.frozen? ⟨w.heap.size + 1, 0, none⟩ = false := fun W k => blk_frozen (k.heap HB2.out (fun h => h)) 0
  have b1 : ∀ W, Keeps No wa W → W.cell? ⟨w.heap.size + 1, 1, none⟩ = some (.int .u32 g1) := fun W k => by rw [blk_cell (k.heap HB2.out (fun h => h))]; rfl
  have y1 : ∀ W, Keeps No wa W → W.frozen? ⟨w.heap.size + 1, 1, none⟩ = false := fun W k => blk_frozen (k.heap HB2.out (fun h => h)) 1
  have b2 : ∀ W, Keeps No wa W → W.cell? ⟨w.heap.size + 1, 2, none⟩ = some (.int .u32 g2) := fun W k => by rw [blk_cell (k.heap HB2.out (fun h => h))]; rfl
  have y2 : ∀ W, Keeps No wa W → W.frozen? ⟨w.heap.size + 1, 2, none⟩ = false := fun W k => blk_frozen (k.heap HB2.out (fun h => h)) 2
  have b3 : ∀ W, Keeps No wa W → W.cell? ⟨w.heap.size + 1, 3, none⟩ = some (.int .u32 g3) := fun W k => by rw [blk_cell (k.heap HB2.out (fun h => h))]; rfl
  have y3 : ∀ W, Keeps No wa W → W.frozen? ⟨w.heap.size + 1, 3, none⟩ = false := fun W k => blk_frozen (k.heap HB2.out (fun h => h)) 3
  have b4 : ∀ W, Keeps No wa W → W.cell? ⟨w.heap.size + 1, 4, none⟩ = some (.int .u32 g4) := fun W k => by rw [blk_cell (k.heap HB2.out (fun h => h))]; rfl
  have y4 : ∀ W, Keeps No wa W → W.frozen? ⟨w.heap.size + 1, 4, none⟩ = false := fun W k => blk_frozen (k.heap HB2.out (fun h => h)) 4
  have b5 : ∀ W, Keeps No wa W → W.cell? ⟨w.heap.size + 1, 5, none⟩ = some (.int .u32 g5) := fun W k => by rw [blk_cell (k.heap HB2.out (fun h => h))]; rfl
  have y5 : ∀ W, Keeps No wa W → W.frozen? ⟨w.heap.size + 1, 5, none⟩ = false := fun W k => blk_frozen (k.heap HB2.out (fun h => h)) 5
  have b6 : ∀ W, Keeps No wa W → W.cell? ⟨w.heap.size + 1, 6, none⟩ = some (.slice A' gpl.length c') := fun W k => by rw [blk_cell (k.heap HB2.out (fun h => h))]; rfl
  have y6 : ∀ W, Keeps No wa W → W.frozen? ⟨w.heap.size + 1, 6, none⟩ = false := fun W k => blk_frozen (k.heap HB2.out (fun h => h)) 6
  have hk6 := (Keeps.refl No wa).drew
  refine wp_region_held_drew (S := fun W => Keeps No w W) (by kernel_rfl) (KA.out.then hk6) (fun _ => ?_)
  refine wpAnyH_ready (fuel := 5) (rs := [0, 2]) (by kernel_rfl) (by simp) (AllReadyH.cons rfl (fun K hK => ?_) (AllReadyH.cons rfl (fun K hK => ?_) AllReadyH.nil))
  · go_simp
    refine hK.out _ _ (KA.out.then hk6) (fun _ => ?_)
    clear hK K
    try simp only [Act.put, List.setIfInBounds_toArray, List.set_cons_zero, List.set_cons_succ]
    refine wpAnyH_ready (fuel := 4) (rs := [1, 2]) (by kernel_rfl) (by simp) (AllReadyH.cons rfl (fun K hK => ?_) (AllReadyH.cons rfl (fun K hK => ?_) AllReadyH.nil))
    · go_simp
      refine (HM1.out _).mono ?_
      rintro e wx ⟨A1, c1, rfl, hr1, hc1, hkx⟩
      have HRA := Lib.hid hr1
      replace hk6 := hk6.then hkx
      clear hr1 hkx
      try (go_wp2_with fail)
      refine hK.out _ _ (KA.out.then hk6) (fun _ => ?_)
      clear hK K
      try simp only [Act.put, List.setIfInBounds_toArray, List.set_cons_zero, List.set_cons_succ]
      refine wpAnyH_ready (fuel := 3) (rs := [2]) (by kernel_rfl) (by simp) (AllReadyH.cons rfl (fun K hK => ?_) AllReadyH.nil)
      go_simp
      refine hK.out _ _ (KA.out.then hk6) (fun _ => ?_)
      clear hK K
      try simp only [Act.put, List.setIfInBounds_toArray, List.set_cons_zero, List.set_cons_succ]
      refine wpAnyH_ready (fuel := 2) (rs := [3]) (by kernel_rfl) (by simp) (AllReadyH.cons rfl (fun K hK => ?_) AllReadyH.nil)
      go_simp
      refine (HM2.out _).mono ?_
      rintro e wy ⟨A2, c2, rfl, hr2, hc2, hkx⟩
      have HRB := Lib.hid hr2
      replace hk6 := hk6.then hkx
      clear hr2 hkx
      try (go_wp2_with fail)
      refine hK.out _ _ (KA.out.then hk6) (fun _ => ?_)
      clear hK K
      try simp only [Act.put, List.setIfInBounds_toArray, List.set_cons_zero, List.set_cons_succ]
      have HWY := Lib.hid hk6
      have hst := stF_keeps wy w.heap.size (.int .u8 p0) (.int .u32 p1) (.int .u32 p2) (.int .u32 p3) (.int .u32 p4) (.int .u32 p5) (.slice A1 ppl.length c1)
      have KS1 := Lib.hid (show Keeps No w (stF wy w.heap.size (.int .u8 p0) (.int .u32 p1) (.int .u32 p2) (.int .u32 p3) (.int .u32 p4) (.int .u32 p5) (.slice A1 ppl.length c1)) from (KA.out.then HWY.out).trans hst (fun i hi => .inr (by have hi : i = w.heap.size := hi; omega)))
      have HP1 := Lib.hid (stF_heap (HWY.out.heap HB1.out (fun h => h)) (.int .u8 p0) (.int .u32 p1) (.int .u32 p2) (.int .u32 p3) (.int .u32 p4) (.int .u32 p5) (.slice A1 ppl.length c1))
      have HG1 := Lib.hid (hst.heap (HWY.out.heap HB2.out (fun h => h)) (fun h => by have h : w.heap.size + 1 = w.heap.size := h; omega))
      have hk6s := KS1.out
      clear hst
      refine wpAnyH_ready (fuel := 1) (rs := [4]) (by kernel_rfl) (by simp) (AllReadyH.cons rfl (fun K hK => ?_) AllReadyH.nil)
      go_simp
      refine hK.out _ _ KS1.out (fun _ => ?_)
      clear hK K
      try simp only [Act.put, List.setIfInBounds_toArray, List.set_cons_zero, List.set_cons_succ]
      change wpAnyH _ _ _ _ _ _ _ _ (stF wy w.heap.size (.int .u8 p0) (.int .u32 p1) (.int .u32 p2) (.int .u32 p3) (.int .u32 p4) (.int .u32 p5) (.slice A1 ppl.length c1))
      generalize stF wy w.heap.size (.int .u8 p0) (.int .u32 p1) (.int .u32 p2) (.int .u32 p3) (.int .u32 p4) (.int .u32 p5) (.slice A1 ppl.length c1) = ws at *
      clear a0 a1 a2 a3 a4 a5 a6 x0 x1 x2 x3 x4 x5 x6 b0 b1 b2 b3 b4 b5 b6 y0 y1 y2 y3 y4 y5 y6 hk6 hk6s
      have b0 : ws.cell? ⟨w.heap.size + 1, 0, none⟩ = some (.int .u8 g0) := by rw [blk_cell HG1.out]; rfl
      have y0 : ws.frozen? ⟨w.heap.size + 1, 0, none⟩ = false := blk_frozen HG1.out 0
      have b1 : ws.cell? ⟨w.heap.size + 1, 1, none⟩ = some (.int .u32 g1) := by rw [blk_cell HG1.out]; rfl
      have y1 : ws.frozen? ⟨w.heap.size + 1, 1, none⟩ = false := blk_frozen HG1.out 1
      have b2 : ws.cell? ⟨w.heap.size + 1, 2, none⟩ = some (.int .u32 g2) := by rw [blk_cell HG1.out]; rfl
      have y2 : ws.frozen? ⟨w.heap.size + 1, 2, none⟩ = false := blk_frozen HG1.out 2
      have b3 : ws.cell? ⟨w.heap.size + 1, 3, none⟩ = some (.int .u32 g3) := by rw [blk_cell HG1.out]; rfl
      have y3 : ws.frozen? ⟨w.heap.size + 1, 3, none⟩ = false := blk_frozen HG1.out 3
      have b4 : ws.cell? ⟨w.heap.size + 1, 4, none⟩ = some (.int .u32 g4) := by rw [blk_cell HG1.out]; rfl
      have y4 : ws.frozen? ⟨w.heap.size + 1, 4, none⟩ = false := blk_frozen HG1.out 4
      have b5 : ws.cell? ⟨w.heap.size + 1, 5, none⟩ = some (.int .u32 g5) := by rw [blk_cell HG1.out]; rfl
      have y5 : ws.frozen? ⟨w.heap.size + 1, 5, none⟩ = false := blk_frozen HG1.out 5
      have b6 : ws.cell? ⟨w.heap.size + 1, 6, none⟩ = some (.slice A' gpl.length c') := by rw [blk_cell HG1.out]; rfl
      have y6 : ws.frozen? ⟨w.heap.size + 1, 6, none⟩ = false := blk_frozen HG1.out 6
      have hst := stF_keeps ws (w.heap.size + 1) (.int .u8 q0) (.int .u32 q1) (.int .u32 q2) (.int .u32 q3) (.int .u32 q4) (.int .u32 q5) (.slice A2 qpl.length c2)
      have KF := Lib.hid (show Keeps No w (stF ws (w.heap.size + 1) (.int .u8 q0) (.int .u32 q1) (.int .u32 q2) (.int .u32 q3) (.int .u32 q4) (.int .u32 q5) (.slice A2 qpl.length c2)) from KS1.out.trans hst (fun i hi => .inr (by have hi : i = w.heap.size + 1 := hi; omega)))
      have HQF := Lib.hid (stF_heap HG1.out (.int .u8 q0) (.int .u32 q1) (.int .u32 q2) (.int .u32 q3) (.int .u32 q4) (.int .u32 q5) (.slice A2 qpl.length c2))
      have HPF := Lib.hid (hst.heap HP1.out (fun h => by have h : w.heap.size = w.heap.size + 1 := h; omega))
      clear hst
      refine wpAnyH_ready (fuel := 0) (rs := [5]) (by kernel_rfl) (by simp) (AllReadyH.cons rfl (fun K hK => ?_) AllReadyH.nil)
      go_simp
      refine hK.out _ _ KF.out (fun _ => ?_)
      clear hK K
      try simp only [Act.put, List.setIfInBounds_toArray, List.set_cons_zero, List.set_cons_succ]
      refine wpAnyH_done (by kernel_rfl) ?_ _
      show Exit.then _ _ _ _ (stF ws (w.heap.size + 1) (.int .u8 q0) (.int .u32 q1) (.int .u32 q2) (.int .u32 q3) (.int .u32 q4) (.int .u32 q5) (.slice A2 qpl.length c2))
      generalize stF ws (w.heap.size + 1) (.int .u8 q0) (.int .u32 q1) (.int .u32 q2) (.int .u32 q3) (.int .u32 q4) (.int .u32 q5) (.slice A2 qpl.length c2) = wf at *
      clear b0 b1 b2 b3 b4 b5 b6 y0 y1 y2 y3 y4 y5 y6
      have RPA := Lib.hid (HRA.out wf (KF.out.rdNo HRF.out))
      have RQA := Lib.hid (HRB.out wf (KF.out.rdNo HRG.out))
      have HTF := Lib.hid (HT.out.keptNo KF.out)
      have HBF := Lib.hid (HTB.out.keptNo KF.out)
      have HS1 := Lib.hid (show ∀ W, Keeps No wf W → Calls Tryd.prog 46 #[.agg #[.int .u8 p0, .int .u32 p1, .int .u32 p2, .int .u32 p3, .int .u32 p4, .int .u32 p5, .slice A1 ppl.length c1]] W (CEnd W (sigL ⟨p0, p1, p2, p3, p4, p5, ppl⟩)) from fun W k => signed_any W ⟨p0, p1, p2, p3, p4, p5, ppl⟩ HFO.out A1 c1 (k.rdNo RPA.out) (HTF.out.keptNo k))
      have HS2 := Lib.hid (show ∀ W, Keeps No wf W → Calls Tryd.prog 46 #[.agg #[.int .u8 q0, .int .u32 q1, .int .u32 q2, .int .u32 q3, .int .u32 q4, .int .u32 q5, .slice A2 qpl.length c2]] W (CEnd W (sigL ⟨q0, q1, q2, q3, q4, q5, qpl⟩)) from fun W k => signed_any W ⟨q0, q1, q2, q3, q4, q5, qpl⟩ HGO.out A2 c2 (k.rdNo RQA.out) (HTF.out.keptNo k))
      rw [HSX.out] at HS1
      rw [HSY.out] at HS2
      have HE1 := Lib.hid (show ∀ W t, Keeps No wf W → t < 18446744073709551616 → Calls Tryd.prog 42 #[.agg #[.int .u8 p0, .int .u32 p1, .int .u32 p2, .int .u32 p3, .int .u32 p4, .int .u32 p5, .slice A1 ppl.length c1], .int .u64 (t : Nat)] W (fun x W' => ∃ r, x = .returned (.tuple #[r, .int .i64 0]) ∧ CPost W (encL ⟨p0, p1, p2, p3, p4, p5, ppl⟩ t) W' r) from fun W t k ht => by
        have h := encode_any W ⟨p0, p1, p2, p3, p4, p5, ppl⟩ HFO.out A1 c1 (k.rdNo RPA.out) (HTF.out.keptNo k) t ht (HBF.out.keptNo k)
        unfold EEnd at h
        rw [show errE ⟨p0, p1, p2, p3, p4, p5, ppl⟩ = 0 from if_pos HFM.out] at h
        exact h)
      have HSB := Lib.hid (show ∀ W, Keeps No wf W → Calls Tryd.prog 51 #[.agg #[.int .u8 p0, .int .u32 p1, .int .u32 p2, .int .u32 p3, .int .u32 p4, .int .u32 p5, .slice A1 ppl.length c1], .agg #[.int .u8 q0, .int .u32 q1, .int .u32 q2, .int .u32 q3, .int .u32 q4, .int .u32 q5, .slice A2 qpl.length c2]] W (fun e w' => e = .returned (.bool (sameB ⟨p0, p1, p2, p3, p4, p5, ppl⟩ ⟨q0, q1, q2, q3, q4, q5, qpl⟩)) ∧ Keeps No W w') from fun W k => psame_any W ⟨p0, p1, p2, p3, p4, p5, ppl⟩ ⟨q0, q1, q2, q3, q4, q5, qpl⟩ A1 A2 c1 c2 (k.rdNo RPA.out) (k.rdNo RQA.out))
      have HLS := Lib.hid (lay_same HFO.out HGO.out)
      have hlx : (layL ⟨p0, p1, p2, p3, p4, p5, ppl⟩).length = 23 + ppl.length := layL_len _
      have HES := Lib.hid (enc_same ⟨p0, p1, p2, p3, p4, p5, ppl⟩ HFM.out tag other htag hoth)
      have HET := Lib.hid (enc_take ⟨p0, p1, p2, p3, p4, p5, ppl⟩ HFM.out)
      have HEL := Lib.hid (enc_len ⟨p0, p1, p2, p3, p4, p5, ppl⟩ HFM.out)
      have HTL := Lib.hid (fun W (k : Keeps No wf W) => tells_any W (HTF.out.keptNo k))
      generalize layL ⟨p0, p1, p2, p3, p4, p5, ppl⟩ = LX at *
      generalize layL ⟨q0, q1, q2, q3, q4, q5, qpl⟩ = LY at *
      generalize sameB ⟨p0, p1, p2, p3, p4, p5, ppl⟩ ⟨q0, q1, q2, q3, q4, q5, qpl⟩ = D at *
      have hnx : ((LX.length : Int) != 23 + (ppl.length : Int)) = false := by
        have : (LX.length : Int) = 23 + (ppl.length : Int) := by omega
        simp [bne, this]
      have hw23 : IntKind.i64.wrap (23 + (ppl.length : Int)) = 23 + (ppl.length : Int) := IntWalk.i64_in _ (by omega)
      have hlx2 : LX.length ≤ 279 := by omega
      have HLX := Lib.hid hlx
      clear hlx
      have a0 : ∀ W, Keeps No wf W → W.cell? ⟨w.heap.size, 0, none⟩ = some (.int .u8 p0) := fun W k => by rw [blk_cell (k.heap HPF.out (fun h => h))]; rfl
      have a1 : ∀ W, Keeps No wf W → W.cell? ⟨w.heap.size, 1, none⟩ = some (.int .u32 p1) := fun W k => by rw [blk_cell (k.heap HPF.out (fun h => h))]; rfl
      have a2 : ∀ W, Keeps No wf W → W.cell? ⟨w.heap.size, 2, none⟩ = some (.int .u32 p2) := fun W k => by rw [blk_cell (k.heap HPF.out (fun h => h))]; rfl
      have a3 : ∀ W, Keeps No wf W → W.cell? ⟨w.heap.size, 3, none⟩ = some (.int .u32 p3) := fun W k => by rw [blk_cell (k.heap HPF.out (fun h => h))]; rfl
      have a4 : ∀ W, Keeps No wf W → W.cell? ⟨w.heap.size, 4, none⟩ = some (.int .u32 p4) := fun W k => by rw [blk_cell (k.heap HPF.out (fun h => h))]; rfl
      have a5 : ∀ W, Keeps No wf W → W.cell? ⟨w.heap.size, 5, none⟩ = some (.int .u32 p5) := fun W k => by rw [blk_cell (k.heap HPF.out (fun h => h))]; rfl
      have a6 : ∀ W, Keeps No wf W → W.cell? ⟨w.heap.size, 6, none⟩ = some (.slice A1 ppl.length c1) := fun W k => by rw [blk_cell (k.heap HPF.out (fun h => h))]; rfl
      have b0 : ∀ W, Keeps No wf W → W.cell? ⟨w.heap.size + 1, 0, none⟩ = some (.int .u8 q0) := fun W k => by rw [blk_cell (k.heap HQF.out (fun h => h))]; rfl
      have b1 : ∀ W, Keeps No wf W → W.cell? ⟨w.heap.size + 1, 1, none⟩ = some (.int .u32 q1) := fun W k => by rw [blk_cell (k.heap HQF.out (fun h => h))]; rfl
      have b2 : ∀ W, Keeps No wf W → W.cell? ⟨w.heap.size + 1, 2, none⟩ = some (.int .u32 q2) := fun W k => by rw [blk_cell (k.heap HQF.out (fun h => h))]; rfl
      have b3 : ∀ W, Keeps No wf W → W.cell? ⟨w.heap.size + 1, 3, none⟩ = some (.int .u32 q3) := fun W k => by rw [blk_cell (k.heap HQF.out (fun h => h))]; rfl
      have b4 : ∀ W, Keeps No wf W → W.cell? ⟨w.heap.size + 1, 4, none⟩ = some (.int .u32 q4) := fun W k => by rw [blk_cell (k.heap HQF.out (fun h => h))]; rfl
      have b5 : ∀ W, Keeps No wf W → W.cell? ⟨w.heap.size + 1, 5, none⟩ = some (.int .u32 q5) := fun W k => by rw [blk_cell (k.heap HQF.out (fun h => h))]; rfl
      have b6 : ∀ W, Keeps No wf W → W.cell? ⟨w.heap.size + 1, 6, none⟩ = some (.slice A2 qpl.length c2) := fun W k => by rw [blk_cell (k.heap HQF.out (fun h => h))]; rfl
      go_wp2_with fail
      have hk6 := (Keeps.refl No wf).drew
      have hkl := (Keeps.refl No wf).drew
      refine wp_region_held_drew (S := fun W => Keeps No wf W ∧ Keeps No wf W) (by kernel_rfl) ⟨hk6, hkl⟩ (fun _ => ?_)
      refine wpAnyH_got (fuel := 5) (i := 0) (d := 19) (v := ?_) rfl rfl (by kernel_rfl) (by kernel_rfl) (by kernel_rfl) (fun _ _ _ h => h) (Or.inl ⟨by rfl, ?_⟩) ⟨hk6, hkl⟩ ?_
      rotate_left
      focus (intro W hSw; go_simp; try (with_reducible rfl))
      try simp only [Act.put, List.setIfInBounds_toArray, List.set_cons_zero, List.set_cons_succ]
      refine wpAnyH_got (fuel := 4) (i := 2) (d := 21) (v := ?_) rfl rfl (by kernel_rfl) (by kernel_rfl) (by kernel_rfl) (fun _ _ _ h => h) (Or.inl ⟨by rfl, ?_⟩) ⟨hk6, hkl⟩ ?_
      rotate_left
      focus (intro W hSw; go_simp; try (with_reducible rfl))
      try simp only [Act.put, List.setIfInBounds_toArray, List.set_cons_zero, List.set_cons_succ]
      refine wpAnyH_only (fuel := 3) (i := 1) (by kernel_rfl) rfl (fun K hK => ?_)
      go_simp
      refine (HS1.out _ hk6).mono ?_
      rintro e wx ⟨r, rfl, hx⟩
      obtain ⟨Ax, cx, rfl, hcx, hRx⟩ := hx.row.rd
      have hkx := hx.keeps
      have HRX := Lib.hid hRx
      clear hx hRx
      try (go_wp2_with fail)
      refine hK.out _ _ ⟨⟨hk6.then hkx, hkl.then hkx⟩, ?_⟩
      clear hK K
      refine wpAnyH_strong (S' := fun W => Keeps No wf W ∧ Keeps No wx W) (fun W k => ⟨k.1, hkl.then (hkx.then k.2)⟩) _ _ _ _ ?_
      replace hk6 := hk6.then hkx
      replace hkl := Keeps.refl No wx
      clear hkx
      try simp only [Act.put, List.setIfInBounds_toArray, List.set_cons_zero, List.set_cons_succ]
      refine wpAnyH_only (fuel := 2) (i := 3) (by kernel_rfl) rfl (fun K hK => ?_)
      go_simp
      refine (HS2.out _ hk6).mono ?_
      rintro e wy2 ⟨r, rfl, hx⟩
      obtain ⟨Ay, cy, rfl, hcy, hRx⟩ := hx.row.rd
      have hkx := hx.keeps
      have HRY0 := Lib.hid hRx
      clear hx hRx
      have HRX1 := Lib.hid (hkx.rdNo HRX.out)
      have HRX := HRX1
      try (go_wp2_with fail)
      refine hK.out _ _ ⟨⟨hk6.then hkx, hkl.then hkx⟩, ?_⟩
      clear hK K
      refine wpAnyH_strong (S' := fun W => Keeps No wf W ∧ Keeps No wy2 W) (fun W k => ⟨k.1, hkl.then (hkx.then k.2)⟩) _ _ _ _ ?_
      replace hk6 := hk6.then hkx
      replace hkl := Keeps.refl No wy2
      clear hkx
      try simp only [Act.put, List.setIfInBounds_toArray, List.set_cons_zero, List.set_cons_succ]
      refine wpAnyH_got (fuel := 1) (i := 4) (d := 9) (v := ?_) rfl rfl (by kernel_rfl) (by kernel_rfl) (by kernel_rfl) (fun _ _ _ h => h) (Or.inl ⟨by rfl, ?_⟩) ⟨hk6, hkl⟩ ?_
      rotate_left
      focus (intro W hSw; go_simp; try (with_reducible rfl))
      try simp only [Act.put, List.setIfInBounds_toArray, List.set_cons_zero, List.set_cons_succ]
      refine wpAnyH_got (fuel := 0) (i := 5) (d := 10) (v := ?_) rfl rfl (by kernel_rfl) (by kernel_rfl) (by kernel_rfl) (fun _ _ _ h => h) (Or.inl ⟨by rfl, ?_⟩) ⟨hk6, hkl⟩ ?_
      rotate_left
      focus (intro W hSw; go_simp; try (with_reducible rfl))
      try simp only [Act.put, List.setIfInBounds_toArray, List.set_cons_zero, List.set_cons_succ]
      refine wpAnyH_done (by kernel_rfl) ?_ _
      have K2 := Lib.hid hk6
      have HRY := HRY0
      clear hk6 hkl
      have HQ1 := Lib.hid (show ∀ W, Keeps No wy2 W → Calls Tryd.prog 50 #[.slice Ax LX.length cx, .slice Ay LY.length cy] W (fun e w' => e = .returned (.bool D) ∧ Keeps No W w') from fun W k => by
        have h := sequal_any W Ax Ay _ _ cx cy LX LY (k.rdNo HRX.out) (k.rdNo HRY.out)
        rw [HLS.out] at h
        exact h)
      have a0 : ∀ W, Keeps No wy2 W → W.cell? ⟨w.heap.size, 0, none⟩ = some (.int .u8 p0) := fun W k => a0 W (K2.out.then k)
      have a1 : ∀ W, Keeps No wy2 W → W.cell? ⟨w.heap.size, 1, none⟩ = some (.int .u32 p1) := fun W k => a1 W (K2.out.then k)
      have a2 : ∀ W, Keeps No wy2 W → W.cell? ⟨w.heap.size, 2, none⟩ = some (.int .u32 p2) := fun W k => a2 W (K2.out.then k)
      have a3 : ∀ W, Keeps No wy2 W → W.cell? ⟨w.heap.size, 3, none⟩ = some (.int .u32 p3) := fun W k => a3 W (K2.out.then k)
      have a4 : ∀ W, Keeps No wy2 W → W.cell? ⟨w.heap.size, 4, none⟩ = some (.int .u32 p4) := fun W k => a4 W (K2.out.then k)
      have a5 : ∀ W, Keeps No wy2 W → W.cell? ⟨w.heap.size, 5, none⟩ = some (.int .u32 p5) := fun W k => a5 W (K2.out.then k)
      have a6 : ∀ W, Keeps No wy2 W → W.cell? ⟨w.heap.size, 6, none⟩ = some (.slice A1 ppl.length c1) := fun W k => a6 W (K2.out.then k)
      have b0 : ∀ W, Keeps No wy2 W → W.cell? ⟨w.heap.size + 1, 0, none⟩ = some (.int .u8 q0) := fun W k => b0 W (K2.out.then k)
      have b1 : ∀ W, Keeps No wy2 W → W.cell? ⟨w.heap.size + 1, 1, none⟩ = some (.int .u32 q1) := fun W k => b1 W (K2.out.then k)
      have b2 : ∀ W, Keeps No wy2 W → W.cell? ⟨w.heap.size + 1, 2, none⟩ = some (.int .u32 q2) := fun W k => b2 W (K2.out.then k)
      have b3 : ∀ W, Keeps No wy2 W → W.cell? ⟨w.heap.size + 1, 3, none⟩ = some (.int .u32 q3) := fun W k => b3 W (K2.out.then k)
      have b4 : ∀ W, Keeps No wy2 W → W.cell? ⟨w.heap.size + 1, 4, none⟩ = some (.int .u32 q4) := fun W k => b4 W (K2.out.then k)
      have b5 : ∀ W, Keeps No wy2 W → W.cell? ⟨w.heap.size + 1, 5, none⟩ = some (.int .u32 q5) := fun W k => b5 W (K2.out.then k)
      have b6 : ∀ W, Keeps No wy2 W → W.cell? ⟨w.heap.size + 1, 6, none⟩ = some (.slice A2 qpl.length c2) := fun W k => b6 W (K2.out.then k)
      go_wp2_with fail
      have hk6 := (Keeps.refl No wy2).drew
      have hkl := (Keeps.refl No wy2).drew
      refine wp_region_held_drew (S := fun W => Keeps No wy2 W ∧ Keeps No wy2 W) (by kernel_rfl) ⟨hk6, hkl⟩ (fun _ => ?_)
      refine wpAnyH_got (fuel := 15) (i := 0) (d := 23) (v := ?_) rfl rfl (by kernel_rfl) (by kernel_rfl) (by kernel_rfl) (fun _ _ _ h => h) (Or.inl ⟨by rfl, ?_⟩) ⟨hk6, hkl⟩ ?_
      rotate_left
      focus (intro W hSw; go_simp; try (with_reducible rfl))
      try simp only [Act.put, List.setIfInBounds_toArray, List.set_cons_zero, List.set_cons_succ]
      refine wpAnyH_got (fuel := 14) (i := 1) (d := 24) (v := ?_) rfl rfl (by kernel_rfl) (by kernel_rfl) (by kernel_rfl) (fun _ _ _ h => h) (Or.inl ⟨by rfl, ?_⟩) ⟨hk6, hkl⟩ ?_
      rotate_left
      focus (intro W hSw; go_simp; try (with_reducible rfl))
      try simp only [Act.put, List.setIfInBounds_toArray, List.set_cons_zero, List.set_cons_succ]
      refine wpAnyH_got (fuel := 13) (i := 3) (d := 26) (v := ?_) rfl rfl (by kernel_rfl) (by kernel_rfl) (by kernel_rfl) (fun _ _ _ h => h) (Or.inl ⟨by rfl, ?_⟩) ⟨hk6, hkl⟩ ?_
      rotate_left
      focus (intro W hSw; go_simp; try (with_reducible rfl))
      try simp only [Act.put, List.setIfInBounds_toArray, List.set_cons_zero, List.set_cons_succ]
      refine wpAnyH_got (fuel := 12) (i := 4) (d := 27) (v := ?_) rfl rfl (by kernel_rfl) (by kernel_rfl) (by kernel_rfl) (fun _ _ _ h => h) (Or.inl ⟨by rfl, ?_⟩) ⟨hk6, hkl⟩ ?_
      rotate_left
      focus (intro W hSw; go_simp; try (with_reducible rfl))
      try simp only [Act.put, List.setIfInBounds_toArray, List.set_cons_zero, List.set_cons_succ]
      refine wpAnyH_only (fuel := 11) (i := 2) (by kernel_rfl) rfl (fun K hK => ?_)
      go_simp
      refine (HQ1.out _ hk6).mono ?_
      rintro e wz1 ⟨rfl, hkx⟩
      try (go_wp2_with fail)
      refine hK.out _ _ ⟨⟨hk6.then hkx, hkl.then hkx⟩, ?_⟩
      clear hK K
      refine wpAnyH_strong (S' := fun W => Keeps No wy2 W ∧ Keeps No wz1 W) (fun W k => ⟨k.1, hkl.then (hkx.then k.2)⟩) _ _ _ _ ?_
      replace hk6 := hk6.then hkx
      replace hkl := Keeps.refl No wz1
      clear hkx
      try simp only [Act.put, List.setIfInBounds_toArray, List.set_cons_zero, List.set_cons_succ]
      refine wpAnyH_only (fuel := 10) (i := 5) (by kernel_rfl) rfl (fun K hK => ?_)
      go_simp
      refine (HSB.out _ (K2.out.then hk6)).mono ?_
      rintro e wz2 ⟨rfl, hkx⟩
      try (go_wp2_with fail)
      refine hK.out _ _ ⟨⟨hk6.then hkx, hkl.then hkx⟩, ?_⟩
      clear hK K
      refine wpAnyH_strong (S' := fun W => Keeps No wy2 W ∧ Keeps No wz2 W) (fun W k => ⟨k.1, hkl.then (hkx.then k.2)⟩) _ _ _ _ ?_
      replace hk6 := hk6.then hkx
      replace hkl := Keeps.refl No wz2
      clear hkx
      try simp only [Act.put, List.setIfInBounds_toArray, List.set_cons_zero, List.set_cons_succ]
      refine wpAnyH_got (fuel := 9) (i := 6) (d := 29) (v := ?_) rfl rfl (by kernel_rfl) (by kernel_rfl) (by kernel_rfl) (fun _ _ _ h => h) (Or.inl ⟨by rfl, ?_⟩) ⟨hk6, hkl⟩ ?_
      rotate_left
      focus (intro W hSw; go_simp; try (with_reducible rfl))
      try simp only [Act.put, List.setIfInBounds_toArray, List.set_cons_zero, List.set_cons_succ]
      refine wpAnyH_got (fuel := 8) (i := 7) (d := 30) (v := ?_) rfl rfl (by kernel_rfl) (by kernel_rfl) (by kernel_rfl) (fun _ _ _ h => h) (Or.inl ⟨by rfl, ?_⟩) ⟨hk6, hkl⟩ ?_
      rotate_left
      focus (intro W hSw; go_simp; try (with_reducible rfl))
      try simp only [Act.put, List.setIfInBounds_toArray, List.set_cons_zero, List.set_cons_succ]
      refine wpAnyH_got (fuel := 7) (i := 8) (d := 31) (v := ?_) rfl rfl (by kernel_rfl) (by kernel_rfl) (by kernel_rfl) (fun _ _ _ h => h) (Or.inl ⟨by rfl, ?_⟩) ⟨hk6, hkl⟩ ?_
      rotate_left
      focus (intro W hSw; go_simp; try (with_reducible rfl))
      try simp only [Act.put, List.setIfInBounds_toArray, List.set_cons_zero, List.set_cons_succ]
      refine wpAnyH_got (fuel := 6) (i := 9) (d := 32) (v := ?_) rfl rfl (by kernel_rfl) (by kernel_rfl) (by kernel_rfl) (fun _ _ _ h => h) (Or.inl ⟨by rfl, ?_⟩) ⟨hk6, hkl⟩ ?_
      rotate_left
      focus (intro W hSw; go_simp; try (with_reducible rfl))
      try simp only [Act.put, List.setIfInBounds_toArray, List.set_cons_zero, List.set_cons_succ]
      refine wpAnyH_got (fuel := 5) (i := 10) (d := 33) (v := ?_) rfl rfl (by kernel_rfl) (by kernel_rfl) (by kernel_rfl) (fun _ _ _ h => h) (Or.inl ⟨by rfl, ?_⟩) ⟨hk6, hkl⟩ ?_
      rotate_left
      focus (intro W hSw; go_simp; try (with_reducible rfl))
      try simp only [Act.put, List.setIfInBounds_toArray, List.set_cons_zero, List.set_cons_succ]
      refine wpAnyH_got (fuel := 4) (i := 11) (d := 34) (v := ?_) rfl rfl (by kernel_rfl) (by kernel_rfl) (by kernel_rfl) (fun _ _ _ h => h) (Or.inl ⟨by rfl, ?_⟩) ⟨hk6, hkl⟩ ?_
      rotate_left
      focus (intro W hSw; go_simp; try (with_reducible rfl))
      try simp only [Act.put, List.setIfInBounds_toArray, List.set_cons_zero, List.set_cons_succ]
      refine wpAnyH_got (fuel := 3) (i := 12) (d := 35) (v := ?_) rfl rfl (by kernel_rfl) (by kernel_rfl) (by kernel_rfl) (fun _ _ _ h => h) (Or.inl ⟨by rfl, ?_⟩) ⟨hk6, hkl⟩ ?_
      rotate_left
      focus (intro W hSw; go_simp; try (with_reducible rfl))
      try simp only [Act.put, List.setIfInBounds_toArray, List.set_cons_zero, List.set_cons_succ]
      refine wpAnyH_got (fuel := 2) (i := 13) (d := 36) (v := ?_) rfl rfl (by kernel_rfl) (by kernel_rfl) (by kernel_rfl) (fun _ _ _ h => h) (Or.inl ⟨by rfl, ?_⟩) ⟨hk6, hkl⟩ ?_
      rotate_left
      focus (intro W hSw; go_simp; try (with_reducible rfl))
      try simp only [Act.put, List.setIfInBounds_toArray, List.set_cons_zero, List.set_cons_succ]
      refine wpAnyH_got (fuel := 1) (i := 14) (d := 37) (v := ?_) rfl rfl (by kernel_rfl) (by kernel_rfl) (by kernel_rfl) (fun _ _ _ h => h) (Or.inl ⟨by rfl, ?_⟩) ⟨hk6, hkl⟩ ?_
      rotate_left
      focus (intro W hSw; go_simp; try (with_reducible rfl))
      try simp only [Act.put, List.setIfInBounds_toArray, List.set_cons_zero, List.set_cons_succ]
      refine wpAnyH_got (fuel := 0) (i := 15) (d := 38) (v := ?_) rfl rfl (by kernel_rfl) (by kernel_rfl) (by kernel_rfl) (fun _ _ _ h => h) (Or.inl ⟨by rfl, ?_⟩) ⟨hk6, hkl⟩ ?_
      rotate_left
      focus (intro W hSw; go_simp; try (with_reducible rfl))
      try simp only [Act.put, List.setIfInBounds_toArray, List.set_cons_zero, List.set_cons_succ]
      refine wpAnyH_done (by kernel_rfl) ?_ _
      have K3 := Lib.hid hk6
      clear hk6 hkl
      have a0 : wz2.cell? ⟨w.heap.size, 0, none⟩ = some (.int .u8 p0) := a0 _ K3.out
      have a1 : wz2.cell? ⟨w.heap.size, 1, none⟩ = some (.int .u32 p1) := a1 _ K3.out
      have a2 : wz2.cell? ⟨w.heap.size, 2, none⟩ = some (.int .u32 p2) := a2 _ K3.out
      have a3 : wz2.cell? ⟨w.heap.size, 3, none⟩ = some (.int .u32 p3) := a3 _ K3.out
      have a4 : wz2.cell? ⟨w.heap.size, 4, none⟩ = some (.int .u32 p4) := a4 _ K3.out
      have a5 : wz2.cell? ⟨w.heap.size, 5, none⟩ = some (.int .u32 p5) := a5 _ K3.out
      have a6 : wz2.cell? ⟨w.heap.size, 6, none⟩ = some (.slice A1 ppl.length c1) := a6 _ K3.out
      clear b0 b1 b2 b3 b4 b5 b6 hw23 hnx
      have K4 := Lib.hid (K2.out.then K3.out)
      go_wp2_with fail
      refine (HE1.out _ tag K4.out htag).mono ?_
      rintro e we1 ⟨r, rfl, h1⟩
      obtain ⟨Ac, cc, rfl, hcc, hRc⟩ := h1.row.rd
      have K5 := Lib.hid (K4.out.then h1.keeps)
      have K35 := Lib.hid (K3.out.then h1.keeps)
      have HRC := Lib.hid hRc
      clear h1 hRc a0 a1 a2 a3 a4 a5 a6
      have a0 : we1.cell? ⟨w.heap.size, 0, none⟩ = some (.int .u8 p0) := by rw [blk_cell (K5.out.heap HPF.out (fun h => h))]; rfl
      have a1 : we1.cell? ⟨w.heap.size, 1, none⟩ = some (.int .u32 p1) := by rw [blk_cell (K5.out.heap HPF.out (fun h => h))]; rfl
      have a2 : we1.cell? ⟨w.heap.size, 2, none⟩ = some (.int .u32 p2) := by rw [blk_cell (K5.out.heap HPF.out (fun h => h))]; rfl
      have a3 : we1.cell? ⟨w.heap.size, 3, none⟩ = some (.int .u32 p3) := by rw [blk_cell (K5.out.heap HPF.out (fun h => h))]; rfl
      have a4 : we1.cell? ⟨w.heap.size, 4, none⟩ = some (.int .u32 p4) := by rw [blk_cell (K5.out.heap HPF.out (fun h => h))]; rfl
      have a5 : we1.cell? ⟨w.heap.size, 5, none⟩ = some (.int .u32 p5) := by rw [blk_cell (K5.out.heap HPF.out (fun h => h))]; rfl
      have a6 : we1.cell? ⟨w.heap.size, 6, none⟩ = some (.slice A1 ppl.length c1) := by rw [blk_cell (K5.out.heap HPF.out (fun h => h))]; rfl
      go_wp2_with fail
      refine (HE1.out _ other K5.out hoth).mono ?_
      rintro e we2 ⟨r, rfl, h2⟩
      obtain ⟨Ad, cd, rfl, hcd, hRd⟩ := h2.row.rd
      have K6 := Lib.hid (K5.out.then h2.keeps)
      have HRC2 := Lib.hid (h2.keeps.rdNo HRC.out)
      have HRD := Lib.hid hRd
      have HRX2 := Lib.hid ((K35.out.then h2.keeps).rdNo HRX.out)
      have HLC0 := Lib.hid (HEL.out tag)
      have HTC := Lib.hid (HET.out tag)
      have HEC := Lib.hid HES.out
      have HEL2 := Lib.hid (HEL.out other)
      have HTD := Lib.hid (HET.out other)
      clear h2 hRd a0 a1 a2 a3 a4 a5 a6
      generalize encL ⟨p0, p1, p2, p3, p4, p5, ppl⟩ tag = LC at *
      generalize encL ⟨p0, p1, p2, p3, p4, p5, ppl⟩ other = LD at *
      have HLC : LX.length ≤ LC.length := by have := HLC0.out; omega
      have hcutc : ∀ W : World, (Instr.slice 22 (.slice Ac LC.length cc) none (some (.int .i64 (LX.length : Int))) none).run Tryd.prog W = .ok (.slice Ac LX.length cc) W := fun W => by
        obtain ⟨i0, hi0, _, _, _⟩ := info_parts Tryd.info5
        have h := cut_to (P := Tryd.prog) 22 5 .i64 Tryd.underlying22 hi0 Ac LC.length cc (LX.length : Int) (by omega) (by omega) hcc W
        rwa [Int.toNat_natCast] at h
      have HLD : LX.length ≤ LD.length := by have := HEL2.out; omega
      have hcutd : ∀ W : World, (Instr.slice 22 (.slice Ad LD.length cd) none (some (.int .i64 (LX.length : Int))) none).run Tryd.prog W = .ok (.slice Ad LX.length cd) W := fun W => by
        obtain ⟨i0, hi0, _, _, _⟩ := info_parts Tryd.info5
        have h := cut_to (P := Tryd.prog) 22 5 .i64 Tryd.underlying22 hi0 Ad LD.length cd (LX.length : Int) (by omega) (by omega) hcd W
        rwa [Int.toNat_natCast] at h
      have HQC := Lib.hid (show ∀ W, Keeps No we2 W → Calls Tryd.prog 50 #[.slice Ac LX.length cc, .slice Ax LX.length cx] W (fun e w' => e = .returned (.bool true) ∧ Keeps No W w') from fun W k => by
        have hr := (k.rdNo HRC2.out).take LX.length (by omega)
        rw [HTC.out] at hr
        have h := sequal_any W Ac Ax _ _ cc cx LX LX hr (k.rdNo HRX2.out)
        rw [decide_eq_true rfl] at h
        exact h)
      have HQD := Lib.hid (show ∀ W, Keeps No we2 W → Calls Tryd.prog 50 #[.slice Ad LX.length cd, .slice Ax LX.length cx] W (fun e w' => e = .returned (.bool true) ∧ Keeps No W w') from fun W k => by
        have hr := (k.rdNo HRD.out).take LX.length (by omega)
        rw [HTD.out] at hr
        have h := sequal_any W Ad Ax _ _ cd cx LX LX hr (k.rdNo HRX2.out)
        rw [decide_eq_true rfl] at h
        exact h)
      have HQE := Lib.hid (show ∀ W, Keeps No we2 W → Calls Tryd.prog 50 #[.slice Ac LC.length cc, .slice Ad LD.length cd] W (fun e w' => e = .returned (.bool (decide (tag = other))) ∧ Keeps No W w') from fun W k => by
        have h := sequal_any W Ac Ad _ _ cc cd LC LD (k.rdNo HRC2.out) (k.rdNo HRD.out)
        rw [HEC.out] at h
        exact h)
      have hbt : ((tag : Int) == (other : Int)) = decide (tag = other) := beq_int tag other
      generalize decide (tag = other) = D2 at *
      clear HES HEL HET HE1
      go_wp2_with fail
      refine (HQC.out _ (Keeps.refl _ _)).mono ?_
      rintro e we3 ⟨rfl, h3⟩
      have K7 := Lib.hid h3
      clear h3
      go_wp2_with fail
      refine (HQD.out _ K7.out).mono ?_
      rintro e we4 ⟨rfl, h4⟩
      have K8 := Lib.hid (K7.out.then h4)
      clear h4
      go_wp2_with fail
      refine (HQE.out _ K8.out).mono ?_
      rintro e we5 ⟨rfl, h5⟩
      have K9 := Lib.hid (K8.out.then h5)
      clear h5
      go_wp2_with fail
      refine (HTL.out _ (K6.out.then K9.out)).mono ?_
      rintro e we6 ⟨rfl, h6⟩
      have K10 := Lib.hid (KF.out.then (K6.out.then (K9.out.then h6)))
      clear h6
      go_wp2
      go_ret
      exact ⟨rfl, K10.out⟩
    · go_simp
      refine hK.out _ _ (KA.out.then hk6) (fun _ => ?_)
      clear hK K
      try simp only [Act.put, List.setIfInBounds_toArray, List.set_cons_zero, List.set_cons_succ]
      refine wpAnyH_ready (fuel := 3) (rs := [1]) (by kernel_rfl) (by simp) (AllReadyH.cons rfl (fun K hK => ?_) AllReadyH.nil)
      go_simp
      refine (HM1.out _).mono ?_
      rintro e wx ⟨A1, c1, rfl, hr1, hc1, hkx⟩
      have HRA := Lib.hid hr1
      replace hk6 := hk6.then hkx
      clear hr1 hkx
      try (go_wp2_with fail)
      refine hK.out _ _ (KA.out.then hk6) (fun _ => ?_)
      clear hK K
      try simp only [Act.put, List.setIfInBounds_toArray, List.set_cons_zero, List.set_cons_succ]
      refine wpAnyH_ready (fuel := 2) (rs := [3]) (by kernel_rfl) (by simp) (AllReadyH.cons rfl (fun K hK => ?_) AllReadyH.nil)
      go_simp
      refine (HM2.out _).mono ?_
      rintro e wy ⟨A2, c2, rfl, hr2, hc2, hkx⟩
      have HRB := Lib.hid hr2
      replace hk6 := hk6.then hkx
      clear hr2 hkx
      try (go_wp2_with fail)
      refine hK.out _ _ (KA.out.then hk6) (fun _ => ?_)
      clear hK K
      try simp only [Act.put, List.setIfInBounds_toArray, List.set_cons_zero, List.set_cons_succ]
      have HWY := Lib.hid hk6
      have hst := stF_keeps wy w.heap.size (.int .u8 p0) (.int .u32 p1) (.int .u32 p2) (.int .u32 p3) (.int .u32 p4) (.int .u32 p5) (.slice A1 ppl.length c1)
      have KS1 := Lib.hid (show Keeps No w (stF wy w.heap.size (.int .u8 p0) (.int .u32 p1) (.int .u32 p2) (.int .u32 p3) (.int .u32 p4) (.int .u32 p5) (.slice A1 ppl.length c1)) from (KA.out.then HWY.out).trans hst (fun i hi => .inr (by have hi : i = w.heap.size := hi; omega)))
      have HP1 := Lib.hid (stF_heap (HWY.out.heap HB1.out (fun h => h)) (.int .u8 p0) (.int .u32 p1) (.int .u32 p2) (.int .u32 p3) (.int .u32 p4) (.int .u32 p5) (.slice A1 ppl.length c1))
      have HG1 := Lib.hid (hst.heap (HWY.out.heap HB2.out (fun h => h)) (fun h => by have h : w.heap.size + 1 = w.heap.size := h; omega))
      have hk6s := KS1.out
      clear hst
      refine wpAnyH_ready (fuel := 1) (rs := [4]) (by kernel_rfl) (by simp) (AllReadyH.cons rfl (fun K hK => ?_) AllReadyH.nil)
      go_simp
      refine hK.out _ _ KS1.out (fun _ => ?_)
      clear hK K
      try simp only [Act.put, List.setIfInBounds_toArray, List.set_cons_zero, List.set_cons_succ]
      change wpAnyH _ _ _ _ _ _ _ _ (stF wy w.heap.size (.int .u8 p0) (.int .u32 p1) (.int .u32 p2) (.int .u32 p3) (.int .u32 p4) (.int .u32 p5) (.slice A1 ppl.length c1))
      generalize stF wy w.heap.size (.int .u8 p0) (.int .u32 p1) (.int .u32 p2) (.int .u32 p3) (.int .u32 p4) (.int .u32 p5) (.slice A1 ppl.length c1) = ws at *
      clear a0 a1 a2 a3 a4 a5 a6 x0 x1 x2 x3 x4 x5 x6 b0 b1 b2 b3 b4 b5 b6 y0 y1 y2 y3 y4 y5 y6 hk6 hk6s
      have b0 : ws.cell? ⟨w.heap.size + 1, 0, none⟩ = some (.int .u8 g0) := by rw [blk_cell HG1.out]; rfl
      have y0 : ws.frozen? ⟨w.heap.size + 1, 0, none⟩ = false := blk_frozen HG1.out 0
      have b1 : ws.cell? ⟨w.heap.size + 1, 1, none⟩ = some (.int .u32 g1) := by rw [blk_cell HG1.out]; rfl
      have y1 : ws.frozen? ⟨w.heap.size + 1, 1, none⟩ = false := blk_frozen HG1.out 1
      have b2 : ws.cell? ⟨w.heap.size + 1, 2, none⟩ = some (.int .u32 g2) := by rw [blk_cell HG1.out]; rfl
      have y2 : ws.frozen? ⟨w.heap.size + 1, 2, none⟩ = false := blk_frozen HG1.out 2
      have b3 : ws.cell? ⟨w.heap.size + 1, 3, none⟩ = some (.int .u32 g3) := by rw [blk_cell HG1.out]; rfl
      have y3 : ws.frozen? ⟨w.heap.size + 1, 3, none⟩ = false := blk_frozen HG1.out 3
      have b4 : ws.cell? ⟨w.heap.size + 1, 4, none⟩ = some (.int .u32 g4) := by rw [blk_cell HG1.out]; rfl
      have y4 : ws.frozen? ⟨w.heap.size + 1, 4, none⟩ = false := blk_frozen HG1.out 4
      have b5 : ws.cell? ⟨w.heap.size + 1, 5, none⟩ = some (.int .u32 g5) := by rw [blk_cell HG1.out]; rfl
      have y5 : ws.frozen? ⟨w.heap.size + 1, 5, none⟩ = false := blk_frozen HG1.out 5
      have b6 : ws.cell? ⟨w.heap.size + 1, 6, none⟩ = some (.slice A' gpl.length c') := by rw [blk_cell HG1.out]; rfl
      have y6 : ws.frozen? ⟨w.heap.size + 1, 6, none⟩ = false := blk_frozen HG1.out 6
      have hst := stF_keeps ws (w.heap.size + 1) (.int .u8 q0) (.int .u32 q1) (.int .u32 q2) (.int .u32 q3) (.int .u32 q4) (.int .u32 q5) (.slice A2 qpl.length c2)
      have KF := Lib.hid (show Keeps No w (stF ws (w.heap.size + 1) (.int .u8 q0) (.int .u32 q1) (.int .u32 q2) (.int .u32 q3) (.int .u32 q4) (.int .u32 q5) (.slice A2 qpl.length c2)) from KS1.out.trans hst (fun i hi => .inr (by have hi : i = w.heap.size + 1 := hi; omega)))
      have HQF := Lib.hid (stF_heap HG1.out (.int .u8 q0) (.int .u32 q1) (.int .u32 q2) (.int .u32 q3) (.int .u32 q4) (.int .u32 q5) (.slice A2 qpl.length c2))
      have HPF := Lib.hid (hst.heap HP1.out (fun h => by have h : w.heap.size = w.heap.size + 1 := h; omega))
      clear hst
      refine wpAnyH_ready (fuel := 0) (rs := [5]) (by kernel_rfl) (by simp) (AllReadyH.cons rfl (fun K hK => ?_) AllReadyH.nil)
      go_simp
      refine hK.out _ _ KF.out (fun _ => ?_)
      clear hK K
      try simp only [Act.put, List.setIfInBounds_toArray, List.set_cons_zero, List.set_cons_succ]
      refine wpAnyH_done (by kernel_rfl) ?_ _
      show Exit.then _ _ _ _ (stF ws (w.heap.size + 1) (.int .u8 q0) (.int .u32 q1) (.int .u32 q2) (.int .u32 q3) (.int .u32 q4) (.int .u32 q5) (.slice A2 qpl.length c2))
      generalize stF ws (w.heap.size + 1) (.int .u8 q0) (.int .u32 q1) (.int .u32 q2) (.int .u32 q3) (.int .u32 q4) (.int .u32 q5) (.slice A2 qpl.length c2) = wf at *
      clear b0 b1 b2 b3 b4 b5 b6 y0 y1 y2 y3 y4 y5 y6
      have RPA := Lib.hid (HRA.out wf (KF.out.rdNo HRF.out))
      have RQA := Lib.hid (HRB.out wf (KF.out.rdNo HRG.out))
      have HTF := Lib.hid (HT.out.keptNo KF.out)
      have HBF := Lib.hid (HTB.out.keptNo KF.out)
      have HS1 := Lib.hid (show ∀ W, Keeps No wf W → Calls Tryd.prog 46 #[.agg #[.int .u8 p0, .int .u32 p1, .int .u32 p2, .int .u32 p3, .int .u32 p4, .int .u32 p5, .slice A1 ppl.length c1]] W (CEnd W (sigL ⟨p0, p1, p2, p3, p4, p5, ppl⟩)) from fun W k => signed_any W ⟨p0, p1, p2, p3, p4, p5, ppl⟩ HFO.out A1 c1 (k.rdNo RPA.out) (HTF.out.keptNo k))
      have HS2 := Lib.hid (show ∀ W, Keeps No wf W → Calls Tryd.prog 46 #[.agg #[.int .u8 q0, .int .u32 q1, .int .u32 q2, .int .u32 q3, .int .u32 q4, .int .u32 q5, .slice A2 qpl.length c2]] W (CEnd W (sigL ⟨q0, q1, q2, q3, q4, q5, qpl⟩)) from fun W k => signed_any W ⟨q0, q1, q2, q3, q4, q5, qpl⟩ HGO.out A2 c2 (k.rdNo RQA.out) (HTF.out.keptNo k))
      rw [HSX.out] at HS1
      rw [HSY.out] at HS2
      have HE1 := Lib.hid (show ∀ W t, Keeps No wf W → t < 18446744073709551616 → Calls Tryd.prog 42 #[.agg #[.int .u8 p0, .int .u32 p1, .int .u32 p2, .int .u32 p3, .int .u32 p4, .int .u32 p5, .slice A1 ppl.length c1], .int .u64 (t : Nat)] W (fun x W' => ∃ r, x = .returned (.tuple #[r, .int .i64 0]) ∧ CPost W (encL ⟨p0, p1, p2, p3, p4, p5, ppl⟩ t) W' r) from fun W t k ht => by
        have h := encode_any W ⟨p0, p1, p2, p3, p4, p5, ppl⟩ HFO.out A1 c1 (k.rdNo RPA.out) (HTF.out.keptNo k) t ht (HBF.out.keptNo k)
        unfold EEnd at h
        rw [show errE ⟨p0, p1, p2, p3, p4, p5, ppl⟩ = 0 from if_pos HFM.out] at h
        exact h)
      have HSB := Lib.hid (show ∀ W, Keeps No wf W → Calls Tryd.prog 51 #[.agg #[.int .u8 p0, .int .u32 p1, .int .u32 p2, .int .u32 p3, .int .u32 p4, .int .u32 p5, .slice A1 ppl.length c1], .agg #[.int .u8 q0, .int .u32 q1, .int .u32 q2, .int .u32 q3, .int .u32 q4, .int .u32 q5, .slice A2 qpl.length c2]] W (fun e w' => e = .returned (.bool (sameB ⟨p0, p1, p2, p3, p4, p5, ppl⟩ ⟨q0, q1, q2, q3, q4, q5, qpl⟩)) ∧ Keeps No W w') from fun W k => psame_any W ⟨p0, p1, p2, p3, p4, p5, ppl⟩ ⟨q0, q1, q2, q3, q4, q5, qpl⟩ A1 A2 c1 c2 (k.rdNo RPA.out) (k.rdNo RQA.out))
      have HLS := Lib.hid (lay_same HFO.out HGO.out)
      have hlx : (layL ⟨p0, p1, p2, p3, p4, p5, ppl⟩).length = 23 + ppl.length := layL_len _
      have HES := Lib.hid (enc_same ⟨p0, p1, p2, p3, p4, p5, ppl⟩ HFM.out tag other htag hoth)
      have HET := Lib.hid (enc_take ⟨p0, p1, p2, p3, p4, p5, ppl⟩ HFM.out)
      have HEL := Lib.hid (enc_len ⟨p0, p1, p2, p3, p4, p5, ppl⟩ HFM.out)
      have HTL := Lib.hid (fun W (k : Keeps No wf W) => tells_any W (HTF.out.keptNo k))
      generalize layL ⟨p0, p1, p2, p3, p4, p5, ppl⟩ = LX at *
      generalize layL ⟨q0, q1, q2, q3, q4, q5, qpl⟩ = LY at *
      generalize sameB ⟨p0, p1, p2, p3, p4, p5, ppl⟩ ⟨q0, q1, q2, q3, q4, q5, qpl⟩ = D at *
      have hnx : ((LX.length : Int) != 23 + (ppl.length : Int)) = false := by
        have : (LX.length : Int) = 23 + (ppl.length : Int) := by omega
        simp [bne, this]
      have hw23 : IntKind.i64.wrap (23 + (ppl.length : Int)) = 23 + (ppl.length : Int) := IntWalk.i64_in _ (by omega)
      have hlx2 : LX.length ≤ 279 := by omega
      have HLX := Lib.hid hlx
      clear hlx
      have a0 : ∀ W, Keeps No wf W → W.cell? ⟨w.heap.size, 0, none⟩ = some (.int .u8 p0) := fun W k => by rw [blk_cell (k.heap HPF.out (fun h => h))]; rfl
      have a1 : ∀ W, Keeps No wf W → W.cell? ⟨w.heap.size, 1, none⟩ = some (.int .u32 p1) := fun W k => by rw [blk_cell (k.heap HPF.out (fun h => h))]; rfl
      have a2 : ∀ W, Keeps No wf W → W.cell? ⟨w.heap.size, 2, none⟩ = some (.int .u32 p2) := fun W k => by rw [blk_cell (k.heap HPF.out (fun h => h))]; rfl
      have a3 : ∀ W, Keeps No wf W → W.cell? ⟨w.heap.size, 3, none⟩ = some (.int .u32 p3) := fun W k => by rw [blk_cell (k.heap HPF.out (fun h => h))]; rfl
      have a4 : ∀ W, Keeps No wf W → W.cell? ⟨w.heap.size, 4, none⟩ = some (.int .u32 p4) := fun W k => by rw [blk_cell (k.heap HPF.out (fun h => h))]; rfl
      have a5 : ∀ W, Keeps No wf W → W.cell? ⟨w.heap.size, 5, none⟩ = some (.int .u32 p5) := fun W k => by rw [blk_cell (k.heap HPF.out (fun h => h))]; rfl
      have a6 : ∀ W, Keeps No wf W → W.cell? ⟨w.heap.size, 6, none⟩ = some (.slice A1 ppl.length c1) := fun W k => by rw [blk_cell (k.heap HPF.out (fun h => h))]; rfl
      have b0 : ∀ W, Keeps No wf W → W.cell? ⟨w.heap.size + 1, 0, none⟩ = some (.int .u8 q0) := fun W k => by rw [blk_cell (k.heap HQF.out (fun h => h))]; rfl
      have b1 : ∀ W, Keeps No wf W → W.cell? ⟨w.heap.size + 1, 1, none⟩ = some (.int .u32 q1) := fun W k => by rw [blk_cell (k.heap HQF.out (fun h => h))]; rfl
      have b2 : ∀ W, Keeps No wf W → W.cell? ⟨w.heap.size + 1, 2, none⟩ = some (.int .u32 q2) := fun W k => by rw [blk_cell (k.heap HQF.out (fun h => h))]; rfl
      have b3 : ∀ W, Keeps No wf W → W.cell? ⟨w.heap.size + 1, 3, none⟩ = some (.int .u32 q3) := fun W k => by rw [blk_cell (k.heap HQF.out (fun h => h))]; rfl
      have b4 : ∀ W, Keeps No wf W → W.cell? ⟨w.heap.size + 1, 4, none⟩ = some (.int .u32 q4) := fun W k => by rw [blk_cell (k.heap HQF.out (fun h => h))]; rfl
      have b5 : ∀ W, Keeps No wf W → W.cell? ⟨w.heap.size + 1, 5, none⟩ = some (.int .u32 q5) := fun W k => by rw [blk_cell (k.heap HQF.out (fun h => h))]; rfl
      have b6 : ∀ W, Keeps No wf W → W.cell? ⟨w.heap.size + 1, 6, none⟩ = some (.slice A2 qpl.length c2) := fun W k => by rw [blk_cell (k.heap HQF.out (fun h => h))]; rfl
      go_wp2_with fail
      have hk6 := (Keeps.refl No wf).drew
      have hkl := (Keeps.refl No wf).drew
      refine wp_region_held_drew (S := fun W => Keeps No wf W ∧ Keeps No wf W) (by kernel_rfl) ⟨hk6, hkl⟩ (fun _ => ?_)
      refine wpAnyH_got (fuel := 5) (i := 0) (d := 19) (v := ?_) rfl rfl (by kernel_rfl) (by kernel_rfl) (by kernel_rfl) (fun _ _ _ h => h) (Or.inl ⟨by rfl, ?_⟩) ⟨hk6, hkl⟩ ?_
      rotate_left
      focus (intro W hSw; go_simp; try (with_reducible rfl))
      try simp only [Act.put, List.setIfInBounds_toArray, List.set_cons_zero, List.set_cons_succ]
      refine wpAnyH_got (fuel := 4) (i := 2) (d := 21) (v := ?_) rfl rfl (by kernel_rfl) (by kernel_rfl) (by kernel_rfl) (fun _ _ _ h => h) (Or.inl ⟨by rfl, ?_⟩) ⟨hk6, hkl⟩ ?_
      rotate_left
      focus (intro W hSw; go_simp; try (with_reducible rfl))
      try simp only [Act.put, List.setIfInBounds_toArray, List.set_cons_zero, List.set_cons_succ]
      refine wpAnyH_only (fuel := 3) (i := 1) (by kernel_rfl) rfl (fun K hK => ?_)
      go_simp
      refine (HS1.out _ hk6).mono ?_
      rintro e wx ⟨r, rfl, hx⟩
      obtain ⟨Ax, cx, rfl, hcx, hRx⟩ := hx.row.rd
      have hkx := hx.keeps
      have HRX := Lib.hid hRx
      clear hx hRx
      try (go_wp2_with fail)
      refine hK.out _ _ ⟨⟨hk6.then hkx, hkl.then hkx⟩, ?_⟩
      clear hK K
      refine wpAnyH_strong (S' := fun W => Keeps No wf W ∧ Keeps No wx W) (fun W k => ⟨k.1, hkl.then (hkx.then k.2)⟩) _ _ _ _ ?_
      replace hk6 := hk6.then hkx
      replace hkl := Keeps.refl No wx
      clear hkx
      try simp only [Act.put, List.setIfInBounds_toArray, List.set_cons_zero, List.set_cons_succ]
      refine wpAnyH_only (fuel := 2) (i := 3) (by kernel_rfl) rfl (fun K hK => ?_)
      go_simp
      refine (HS2.out _ hk6).mono ?_
      rintro e wy2 ⟨r, rfl, hx⟩
      obtain ⟨Ay, cy, rfl, hcy, hRx⟩ := hx.row.rd
      have hkx := hx.keeps
      have HRY0 := Lib.hid hRx
      clear hx hRx
      have HRX1 := Lib.hid (hkx.rdNo HRX.out)
      have HRX := HRX1
      try (go_wp2_with fail)
      refine hK.out _ _ ⟨⟨hk6.then hkx, hkl.then hkx⟩, ?_⟩
      clear hK K
      refine wpAnyH_strong (S' := fun W => Keeps No wf W ∧ Keeps No wy2 W) (fun W k => ⟨k.1, hkl.then (hkx.then k.2)⟩) _ _ _ _ ?_
      replace hk6 := hk6.then hkx
      replace hkl := Keeps.refl No wy2
      clear hkx
      try simp only [Act.put, List.setIfInBounds_toArray, List.set_cons_zero, List.set_cons_succ]
      refine wpAnyH_got (fuel := 1) (i := 4) (d := 9) (v := ?_) rfl rfl (by kernel_rfl) (by kernel_rfl) (by kernel_rfl) (fun _ _ _ h => h) (Or.inl ⟨by rfl, ?_⟩) ⟨hk6, hkl⟩ ?_
      rotate_left
      focus (intro W hSw; go_simp; try (with_reducible rfl))
      try simp only [Act.put, List.setIfInBounds_toArray, List.set_cons_zero, List.set_cons_succ]
      refine wpAnyH_got (fuel := 0) (i := 5) (d := 10) (v := ?_) rfl rfl (by kernel_rfl) (by kernel_rfl) (by kernel_rfl) (fun _ _ _ h => h) (Or.inl ⟨by rfl, ?_⟩) ⟨hk6, hkl⟩ ?_
      rotate_left
      focus (intro W hSw; go_simp; try (with_reducible rfl))
      try simp only [Act.put, List.setIfInBounds_toArray, List.set_cons_zero, List.set_cons_succ]
      refine wpAnyH_done (by kernel_rfl) ?_ _
      have K2 := Lib.hid hk6
      have HRY := HRY0
      clear hk6 hkl
      have HQ1 := Lib.hid (show ∀ W, Keeps No wy2 W → Calls Tryd.prog 50 #[.slice Ax LX.length cx, .slice Ay LY.length cy] W (fun e w' => e = .returned (.bool D) ∧ Keeps No W w') from fun W k => by
        have h := sequal_any W Ax Ay _ _ cx cy LX LY (k.rdNo HRX.out) (k.rdNo HRY.out)
        rw [HLS.out] at h
        exact h)
      have a0 : ∀ W, Keeps No wy2 W → W.cell? ⟨w.heap.size, 0, none⟩ = some (.int .u8 p0) := fun W k => a0 W (K2.out.then k)
      have a1 : ∀ W, Keeps No wy2 W → W.cell? ⟨w.heap.size, 1, none⟩ = some (.int .u32 p1) := fun W k => a1 W (K2.out.then k)
      have a2 : ∀ W, Keeps No wy2 W → W.cell? ⟨w.heap.size, 2, none⟩ = some (.int .u32 p2) := fun W k => a2 W (K2.out.then k)
      have a3 : ∀ W, Keeps No wy2 W → W.cell? ⟨w.heap.size, 3, none⟩ = some (.int .u32 p3) := fun W k => a3 W (K2.out.then k)
      have a4 : ∀ W, Keeps No wy2 W → W.cell? ⟨w.heap.size, 4, none⟩ = some (.int .u32 p4) := fun W k => a4 W (K2.out.then k)
      have a5 : ∀ W, Keeps No wy2 W → W.cell? ⟨w.heap.size, 5, none⟩ = some (.int .u32 p5) := fun W k => a5 W (K2.out.then k)
      have a6 : ∀ W, Keeps No wy2 W → W.cell? ⟨w.heap.size, 6, none⟩ = some (.slice A1 ppl.length c1) := fun W k => a6 W (K2.out.then k)
      have b0 : ∀ W, Keeps No wy2 W → W.cell? ⟨w.heap.size + 1, 0, none⟩ = some (.int .u8 q0) := fun W k => b0 W (K2.out.then k)
      have b1 : ∀ W, Keeps No wy2 W → W.cell? ⟨w.heap.size + 1, 1, none⟩ = some (.int .u32 q1) := fun W k => b1 W (K2.out.then k)
      have b2 : ∀ W, Keeps No wy2 W → W.cell? ⟨w.heap.size + 1, 2, none⟩ = some (.int .u32 q2) := fun W k => b2 W (K2.out.then k)
      have b3 : ∀ W, Keeps No wy2 W → W.cell? ⟨w.heap.size + 1, 3, none⟩ = some (.int .u32 q3) := fun W k => b3 W (K2.out.then k)
      have b4 : ∀ W, Keeps No wy2 W → W.cell? ⟨w.heap.size + 1, 4, none⟩ = some (.int .u32 q4) := fun W k => b4 W (K2.out.then k)
      have b5 : ∀ W, Keeps No wy2 W → W.cell? ⟨w.heap.size + 1, 5, none⟩ = some (.int .u32 q5) := fun W k => b5 W (K2.out.then k)
      have b6 : ∀ W, Keeps No wy2 W → W.cell? ⟨w.heap.size + 1, 6, none⟩ = some (.slice A2 qpl.length c2) := fun W k => b6 W (K2.out.then k)
      go_wp2_with fail
      have hk6 := (Keeps.refl No wy2).drew
      have hkl := (Keeps.refl No wy2).drew
      refine wp_region_held_drew (S := fun W => Keeps No wy2 W ∧ Keeps No wy2 W) (by kernel_rfl) ⟨hk6, hkl⟩ (fun _ => ?_)
      refine wpAnyH_got (fuel := 15) (i := 0) (d := 23) (v := ?_) rfl rfl (by kernel_rfl) (by kernel_rfl) (by kernel_rfl) (fun _ _ _ h => h) (Or.inl ⟨by rfl, ?_⟩) ⟨hk6, hkl⟩ ?_
      rotate_left
      focus (intro W hSw; go_simp; try (with_reducible rfl))
      try simp only [Act.put, List.setIfInBounds_toArray, List.set_cons_zero, List.set_cons_succ]
      refine wpAnyH_got (fuel := 14) (i := 1) (d := 24) (v := ?_) rfl rfl (by kernel_rfl) (by kernel_rfl) (by kernel_rfl) (fun _ _ _ h => h) (Or.inl ⟨by rfl, ?_⟩) ⟨hk6, hkl⟩ ?_
      rotate_left
      focus (intro W hSw; go_simp; try (with_reducible rfl))
      try simp only [Act.put, List.setIfInBounds_toArray, List.set_cons_zero, List.set_cons_succ]
      refine wpAnyH_got (fuel := 13) (i := 3) (d := 26) (v := ?_) rfl rfl (by kernel_rfl) (by kernel_rfl) (by kernel_rfl) (fun _ _ _ h => h) (Or.inl ⟨by rfl, ?_⟩) ⟨hk6, hkl⟩ ?_
      rotate_left
      focus (intro W hSw; go_simp; try (with_reducible rfl))
      try simp only [Act.put, List.setIfInBounds_toArray, List.set_cons_zero, List.set_cons_succ]
      refine wpAnyH_got (fuel := 12) (i := 4) (d := 27) (v := ?_) rfl rfl (by kernel_rfl) (by kernel_rfl) (by kernel_rfl) (fun _ _ _ h => h) (Or.inl ⟨by rfl, ?_⟩) ⟨hk6, hkl⟩ ?_
      rotate_left
      focus (intro W hSw; go_simp; try (with_reducible rfl))
      try simp only [Act.put, List.setIfInBounds_toArray, List.set_cons_zero, List.set_cons_succ]
      refine wpAnyH_only (fuel := 11) (i := 2) (by kernel_rfl) rfl (fun K hK => ?_)
      go_simp
      refine (HQ1.out _ hk6).mono ?_
      rintro e wz1 ⟨rfl, hkx⟩
      try (go_wp2_with fail)
      refine hK.out _ _ ⟨⟨hk6.then hkx, hkl.then hkx⟩, ?_⟩
      clear hK K
      refine wpAnyH_strong (S' := fun W => Keeps No wy2 W ∧ Keeps No wz1 W) (fun W k => ⟨k.1, hkl.then (hkx.then k.2)⟩) _ _ _ _ ?_
      replace hk6 := hk6.then hkx
      replace hkl := Keeps.refl No wz1
      clear hkx
      try simp only [Act.put, List.setIfInBounds_toArray, List.set_cons_zero, List.set_cons_succ]
      refine wpAnyH_only (fuel := 10) (i := 5) (by kernel_rfl) rfl (fun K hK => ?_)
      go_simp
      refine (HSB.out _ (K2.out.then hk6)).mono ?_
      rintro e wz2 ⟨rfl, hkx⟩
      try (go_wp2_with fail)
      refine hK.out _ _ ⟨⟨hk6.then hkx, hkl.then hkx⟩, ?_⟩
      clear hK K
      refine wpAnyH_strong (S' := fun W => Keeps No wy2 W ∧ Keeps No wz2 W) (fun W k => ⟨k.1, hkl.then (hkx.then k.2)⟩) _ _ _ _ ?_
      replace hk6 := hk6.then hkx
      replace hkl := Keeps.refl No wz2
      clear hkx
      try simp only [Act.put, List.setIfInBounds_toArray, List.set_cons_zero, List.set_cons_succ]
      refine wpAnyH_got (fuel := 9) (i := 6) (d := 29) (v := ?_) rfl rfl (by kernel_rfl) (by kernel_rfl) (by kernel_rfl) (fun _ _ _ h => h) (Or.inl ⟨by rfl, ?_⟩) ⟨hk6, hkl⟩ ?_
      rotate_left
      focus (intro W hSw; go_simp; try (with_reducible rfl))
      try simp only [Act.put, List.setIfInBounds_toArray, List.set_cons_zero, List.set_cons_succ]
      refine wpAnyH_got (fuel := 8) (i := 7) (d := 30) (v := ?_) rfl rfl (by kernel_rfl) (by kernel_rfl) (by kernel_rfl) (fun _ _ _ h => h) (Or.inl ⟨by rfl, ?_⟩) ⟨hk6, hkl⟩ ?_
      rotate_left
      focus (intro W hSw; go_simp; try (with_reducible rfl))
      try simp only [Act.put, List.setIfInBounds_toArray, List.set_cons_zero, List.set_cons_succ]
      refine wpAnyH_got (fuel := 7) (i := 8) (d := 31) (v := ?_) rfl rfl (by kernel_rfl) (by kernel_rfl) (by kernel_rfl) (fun _ _ _ h => h) (Or.inl ⟨by rfl, ?_⟩) ⟨hk6, hkl⟩ ?_
      rotate_left
      focus (intro W hSw; go_simp; try (with_reducible rfl))
      try simp only [Act.put, List.setIfInBounds_toArray, List.set_cons_zero, List.set_cons_succ]
      refine wpAnyH_got (fuel := 6) (i := 9) (d := 32) (v := ?_) rfl rfl (by kernel_rfl) (by kernel_rfl) (by kernel_rfl) (fun _ _ _ h => h) (Or.inl ⟨by rfl, ?_⟩) ⟨hk6, hkl⟩ ?_
      rotate_left
      focus (intro W hSw; go_simp; try (with_reducible rfl))
      try simp only [Act.put, List.setIfInBounds_toArray, List.set_cons_zero, List.set_cons_succ]
      refine wpAnyH_got (fuel := 5) (i := 10) (d := 33) (v := ?_) rfl rfl (by kernel_rfl) (by kernel_rfl) (by kernel_rfl) (fun _ _ _ h => h) (Or.inl ⟨by rfl, ?_⟩) ⟨hk6, hkl⟩ ?_
      rotate_left
      focus (intro W hSw; go_simp; try (with_reducible rfl))
      try simp only [Act.put, List.setIfInBounds_toArray, List.set_cons_zero, List.set_cons_succ]
      refine wpAnyH_got (fuel := 4) (i := 11) (d := 34) (v := ?_) rfl rfl (by kernel_rfl) (by kernel_rfl) (by kernel_rfl) (fun _ _ _ h => h) (Or.inl ⟨by rfl, ?_⟩) ⟨hk6, hkl⟩ ?_
      rotate_left
      focus (intro W hSw; go_simp; try (with_reducible rfl))
      try simp only [Act.put, List.setIfInBounds_toArray, List.set_cons_zero, List.set_cons_succ]
      refine wpAnyH_got (fuel := 3) (i := 12) (d := 35) (v := ?_) rfl rfl (by kernel_rfl) (by kernel_rfl) (by kernel_rfl) (fun _ _ _ h => h) (Or.inl ⟨by rfl, ?_⟩) ⟨hk6, hkl⟩ ?_
      rotate_left
      focus (intro W hSw; go_simp; try (with_reducible rfl))
      try simp only [Act.put, List.setIfInBounds_toArray, List.set_cons_zero, List.set_cons_succ]
      refine wpAnyH_got (fuel := 2) (i := 13) (d := 36) (v := ?_) rfl rfl (by kernel_rfl) (by kernel_rfl) (by kernel_rfl) (fun _ _ _ h => h) (Or.inl ⟨by rfl, ?_⟩) ⟨hk6, hkl⟩ ?_
      rotate_left
      focus (intro W hSw; go_simp; try (with_reducible rfl))
      try simp only [Act.put, List.setIfInBounds_toArray, List.set_cons_zero, List.set_cons_succ]
      refine wpAnyH_got (fuel := 1) (i := 14) (d := 37) (v := ?_) rfl rfl (by kernel_rfl) (by kernel_rfl) (by kernel_rfl) (fun _ _ _ h => h) (Or.inl ⟨by rfl, ?_⟩) ⟨hk6, hkl⟩ ?_
      rotate_left
      focus (intro W hSw; go_simp; try (with_reducible rfl))
      try simp only [Act.put, List.setIfInBounds_toArray, List.set_cons_zero, List.set_cons_succ]
      refine wpAnyH_got (fuel := 0) (i := 15) (d := 38) (v := ?_) rfl rfl (by kernel_rfl) (by kernel_rfl) (by kernel_rfl) (fun _ _ _ h => h) (Or.inl ⟨by rfl, ?_⟩) ⟨hk6, hkl⟩ ?_
      rotate_left
      focus (intro W hSw; go_simp; try (with_reducible rfl))
      try simp only [Act.put, List.setIfInBounds_toArray, List.set_cons_zero, List.set_cons_succ]
      refine wpAnyH_done (by kernel_rfl) ?_ _
      have K3 := Lib.hid hk6
      clear hk6 hkl
      have a0 : wz2.cell? ⟨w.heap.size, 0, none⟩ = some (.int .u8 p0) := a0 _ K3.out
      have a1 : wz2.cell? ⟨w.heap.size, 1, none⟩ = some (.int .u32 p1) := a1 _ K3.out
      have a2 : wz2.cell? ⟨w.heap.size, 2, none⟩ = some (.int .u32 p2) := a2 _ K3.out
      have a3 : wz2.cell? ⟨w.heap.size, 3, none⟩ = some (.int .u32 p3) := a3 _ K3.out
      have a4 : wz2.cell? ⟨w.heap.size, 4, none⟩ = some (.int .u32 p4) := a4 _ K3.out
      have a5 : wz2.cell? ⟨w.heap.size, 5, none⟩ = some (.int .u32 p5) := a5 _ K3.out
      have a6 : wz2.cell? ⟨w.heap.size, 6, none⟩ = some (.slice A1 ppl.length c1) := a6 _ K3.out
      clear b0 b1 b2 b3 b4 b5 b6 hw23 hnx
      have K4 := Lib.hid (K2.out.then K3.out)
      go_wp2_with fail
      refine (HE1.out _ tag K4.out htag).mono ?_
      rintro e we1 ⟨r, rfl, h1⟩
      obtain ⟨Ac, cc, rfl, hcc, hRc⟩ := h1.row.rd
      have K5 := Lib.hid (K4.out.then h1.keeps)
      have K35 := Lib.hid (K3.out.then h1.keeps)
      have HRC := Lib.hid hRc
      clear h1 hRc a0 a1 a2 a3 a4 a5 a6
      have a0 : we1.cell? ⟨w.heap.size, 0, none⟩ = some (.int .u8 p0) := by rw [blk_cell (K5.out.heap HPF.out (fun h => h))]; rfl
      have a1 : we1.cell? ⟨w.heap.size, 1, none⟩ = some (.int .u32 p1) := by rw [blk_cell (K5.out.heap HPF.out (fun h => h))]; rfl
      have a2 : we1.cell? ⟨w.heap.size, 2, none⟩ = some (.int .u32 p2) := by rw [blk_cell (K5.out.heap HPF.out (fun h => h))]; rfl
      have a3 : we1.cell? ⟨w.heap.size, 3, none⟩ = some (.int .u32 p3) := by rw [blk_cell (K5.out.heap HPF.out (fun h => h))]; rfl
      have a4 : we1.cell? ⟨w.heap.size, 4, none⟩ = some (.int .u32 p4) := by rw [blk_cell (K5.out.heap HPF.out (fun h => h))]; rfl
      have a5 : we1.cell? ⟨w.heap.size, 5, none⟩ = some (.int .u32 p5) := by rw [blk_cell (K5.out.heap HPF.out (fun h => h))]; rfl
      have a6 : we1.cell? ⟨w.heap.size, 6, none⟩ = some (.slice A1 ppl.length c1) := by rw [blk_cell (K5.out.heap HPF.out (fun h => h))]; rfl
      go_wp2_with fail
      refine (HE1.out _ other K5.out hoth).mono ?_
      rintro e we2 ⟨r, rfl, h2⟩
      obtain ⟨Ad, cd, rfl, hcd, hRd⟩ := h2.row.rd
      have K6 := Lib.hid (K5.out.then h2.keeps)
      have HRC2 := Lib.hid (h2.keeps.rdNo HRC.out)
      have HRD := Lib.hid hRd
      have HRX2 := Lib.hid ((K35.out.then h2.keeps).rdNo HRX.out)
      have HLC0 := Lib.hid (HEL.out tag)
      have HTC := Lib.hid (HET.out tag)
      have HEC := Lib.hid HES.out
      have HEL2 := Lib.hid (HEL.out other)
      have HTD := Lib.hid (HET.out other)
      clear h2 hRd a0 a1 a2 a3 a4 a5 a6
      generalize encL ⟨p0, p1, p2, p3, p4, p5, ppl⟩ tag = LC at *
      generalize encL ⟨p0, p1, p2, p3, p4, p5, ppl⟩ other = LD at *
      have HLC : LX.length ≤ LC.length := by have := HLC0.out; omega
      have hcutc : ∀ W : World, (Instr.slice 22 (.slice Ac LC.length cc) none (some (.int .i64 (LX.length : Int))) none).run Tryd.prog W = .ok (.slice Ac LX.length cc) W := fun W => by
        obtain ⟨i0, hi0, _, _, _⟩ := info_parts Tryd.info5
        have h := cut_to (P := Tryd.prog) 22 5 .i64 Tryd.underlying22 hi0 Ac LC.length cc (LX.length : Int) (by omega) (by omega) hcc W
        rwa [Int.toNat_natCast] at h
      have HLD : LX.length ≤ LD.length := by have := HEL2.out; omega
      have hcutd : ∀ W : World, (Instr.slice 22 (.slice Ad LD.length cd) none (some (.int .i64 (LX.length : Int))) none).run Tryd.prog W = .ok (.slice Ad LX.length cd) W := fun W => by
        obtain ⟨i0, hi0, _, _, _⟩ := info_parts Tryd.info5
        have h := cut_to (P := Tryd.prog) 22 5 .i64 Tryd.underlying22 hi0 Ad LD.length cd (LX.length : Int) (by omega) (by omega) hcd W
        rwa [Int.toNat_natCast] at h
      have HQC := Lib.hid (show ∀ W, Keeps No we2 W → Calls Tryd.prog 50 #[.slice Ac LX.length cc, .slice Ax LX.length cx] W (fun e w' => e = .returned (.bool true) ∧ Keeps No W w') from fun W k => by
        have hr := (k.rdNo HRC2.out).take LX.length (by omega)
        rw [HTC.out] at hr
        have h := sequal_any W Ac Ax _ _ cc cx LX LX hr (k.rdNo HRX2.out)
        rw [decide_eq_true rfl] at h
        exact h)
      have HQD := Lib.hid (show ∀ W, Keeps No we2 W → Calls Tryd.prog 50 #[.slice Ad LX.length cd, .slice Ax LX.length cx] W (fun e w' => e = .returned (.bool true) ∧ Keeps No W w') from fun W k => by
        have hr := (k.rdNo HRD.out).take LX.length (by omega)
        rw [HTD.out] at hr
        have h := sequal_any W Ad Ax _ _ cd cx LX LX hr (k.rdNo HRX2.out)
        rw [decide_eq_true rfl] at h
        exact h)
      have HQE := Lib.hid (show ∀ W, Keeps No we2 W → Calls Tryd.prog 50 #[.slice Ac LC.length cc, .slice Ad LD.length cd] W (fun e w' => e = .returned (.bool (decide (tag = other))) ∧ Keeps No W w') from fun W k => by
        have h := sequal_any W Ac Ad _ _ cc cd LC LD (k.rdNo HRC2.out) (k.rdNo HRD.out)
        rw [HEC.out] at h
        exact h)
      have hbt : ((tag : Int) == (other : Int)) = decide (tag = other) := beq_int tag other
      generalize decide (tag = other) = D2 at *
      clear HES HEL HET HE1
      go_wp2_with fail
      refine (HQC.out _ (Keeps.refl _ _)).mono ?_
      rintro e we3 ⟨rfl, h3⟩
      have K7 := Lib.hid h3
      clear h3
      go_wp2_with fail
      refine (HQD.out _ K7.out).mono ?_
      rintro e we4 ⟨rfl, h4⟩
      have K8 := Lib.hid (K7.out.then h4)
      clear h4
      go_wp2_with fail
      refine (HQE.out _ K8.out).mono ?_
      rintro e we5 ⟨rfl, h5⟩
      have K9 := Lib.hid (K8.out.then h5)
      clear h5
      go_wp2_with fail
      refine (HTL.out _ (K6.out.then K9.out)).mono ?_
      rintro e we6 ⟨rfl, h6⟩
      have K10 := Lib.hid (KF.out.then (K6.out.then (K9.out.then h6)))
      clear h6
      go_wp2
      go_ret
      exact ⟨rfl, K10.out⟩
  · go_simp
    refine hK.out _ _ (KA.out.then hk6) (fun _ => ?_)
    clear hK K
    try simp only [Act.put, List.setIfInBounds_toArray, List.set_cons_zero, List.set_cons_succ]
    refine wpAnyH_ready (fuel := 4) (rs := [0]) (by kernel_rfl) (by simp) (AllReadyH.cons rfl (fun K hK => ?_) AllReadyH.nil)
    go_simp
    refine hK.out _ _ (KA.out.then hk6) (fun _ => ?_)
    clear hK K
    try simp only [Act.put, List.setIfInBounds_toArray, List.set_cons_zero, List.set_cons_succ]
    refine wpAnyH_ready (fuel := 3) (rs := [1]) (by kernel_rfl) (by simp) (AllReadyH.cons rfl (fun K hK => ?_) AllReadyH.nil)
    go_simp
    refine (HM1.out _).mono ?_
    rintro e wx ⟨A1, c1, rfl, hr1, hc1, hkx⟩
    have HRA := Lib.hid hr1
    replace hk6 := hk6.then hkx
    clear hr1 hkx
    try (go_wp2_with fail)
    refine hK.out _ _ (KA.out.then hk6) (fun _ => ?_)
    clear hK K
    try simp only [Act.put, List.setIfInBounds_toArray, List.set_cons_zero, List.set_cons_succ]
    refine wpAnyH_ready (fuel := 2) (rs := [3]) (by kernel_rfl) (by simp) (AllReadyH.cons rfl (fun K hK => ?_) AllReadyH.nil)
    go_simp
    refine (HM2.out _).mono ?_
    rintro e wy ⟨A2, c2, rfl, hr2, hc2, hkx⟩
    have HRB := Lib.hid hr2
    replace hk6 := hk6.then hkx
    clear hr2 hkx
    try (go_wp2_with fail)
    refine hK.out _ _ (KA.out.then hk6) (fun _ => ?_)
    clear hK K
    try simp only [Act.put, List.setIfInBounds_toArray, List.set_cons_zero, List.set_cons_succ]
    have HWY := Lib.hid hk6
    have hst := stF_keeps wy w.heap.size (.int .u8 p0) (.int .u32 p1) (.int .u32 p2) (.int .u32 p3) (.int .u32 p4) (.int .u32 p5) (.slice A1 ppl.length c1)
    have KS1 := Lib.hid (show Keeps No w (stF wy w.heap.size (.int .u8 p0) (.int .u32 p1) (.int .u32 p2) (.int .u32 p3) (.int .u32 p4) (.int .u32 p5) (.slice A1 ppl.length c1)) from (KA.out.then HWY.out).trans hst (fun i hi => .inr (by have hi : i = w.heap.size := hi; omega)))
    have HP1 := Lib.hid (stF_heap (HWY.out.heap HB1.out (fun h => h)) (.int .u8 p0) (.int .u32 p1) (.int .u32 p2) (.int .u32 p3) (.int .u32 p4) (.int .u32 p5) (.slice A1 ppl.length c1))
    have HG1 := Lib.hid (hst.heap (HWY.out.heap HB2.out (fun h => h)) (fun h => by have h : w.heap.size + 1 = w.heap.size := h; omega))
    have hk6s := KS1.out
    clear hst
    refine wpAnyH_ready (fuel := 1) (rs := [4]) (by kernel_rfl) (by simp) (AllReadyH.cons rfl (fun K hK => ?_) AllReadyH.nil)
    go_simp
    refine hK.out _ _ KS1.out (fun _ => ?_)
    clear hK K
    try simp only [Act.put, List.setIfInBounds_toArray, List.set_cons_zero, List.set_cons_succ]
    change wpAnyH _ _ _ _ _ _ _ _ (stF wy w.heap.size (.int .u8 p0) (.int .u32 p1) (.int .u32 p2) (.int .u32 p3) (.int .u32 p4) (.int .u32 p5) (.slice A1 ppl.length c1))
    generalize stF wy w.heap.size (.int .u8 p0) (.int .u32 p1) (.int .u32 p2) (.int .u32 p3) (.int .u32 p4) (.int .u32 p5) (.slice A1 ppl.length c1) = ws at *
    clear a0 a1 a2 a3 a4 a5 a6 x0 x1 x2 x3 x4 x5 x6 b0 b1 b2 b3 b4 b5 b6 y0 y1 y2 y3 y4 y5 y6 hk6 hk6s
    have b0 : ws.cell? ⟨w.heap.size + 1, 0, none⟩ = some (.int .u8 g0) := by rw [blk_cell HG1.out]; rfl
    have y0 : ws.frozen? ⟨w.heap.size + 1, 0, none⟩ = false := blk_frozen HG1.out 0
    have b1 : ws.cell? ⟨w.heap.size + 1, 1, none⟩ = some (.int .u32 g1) := by rw [blk_cell HG1.out]; rfl
    have y1 : ws.frozen? ⟨w.heap.size + 1, 1, none⟩ = false := blk_frozen HG1.out 1
    have b2 : ws.cell? ⟨w.heap.size + 1, 2, none⟩ = some (.int .u32 g2) := by rw [blk_cell HG1.out]; rfl
    have y2 : ws.frozen? ⟨w.heap.size + 1, 2, none⟩ = false := blk_frozen HG1.out 2
    have b3 : ws.cell? ⟨w.heap.size + 1, 3, none⟩ = some (.int .u32 g3) := by rw [blk_cell HG1.out]; rfl
    have y3 : ws.frozen? ⟨w.heap.size + 1, 3, none⟩ = false := blk_frozen HG1.out 3
    have b4 : ws.cell? ⟨w.heap.size + 1, 4, none⟩ = some (.int .u32 g4) := by rw [blk_cell HG1.out]; rfl
    have y4 : ws.frozen? ⟨w.heap.size + 1, 4, none⟩ = false := blk_frozen HG1.out 4
    have b5 : ws.cell? ⟨w.heap.size + 1, 5, none⟩ = some (.int .u32 g5) := by rw [blk_cell HG1.out]; rfl
    have y5 : ws.frozen? ⟨w.heap.size + 1, 5, none⟩ = false := blk_frozen HG1.out 5
    have b6 : ws.cell? ⟨w.heap.size + 1, 6, none⟩ = some (.slice A' gpl.length c') := by rw [blk_cell HG1.out]; rfl
    have y6 : ws.frozen? ⟨w.heap.size + 1, 6, none⟩ = false := blk_frozen HG1.out 6
    have hst := stF_keeps ws (w.heap.size + 1) (.int .u8 q0) (.int .u32 q1) (.int .u32 q2) (.int .u32 q3) (.int .u32 q4) (.int .u32 q5) (.slice A2 qpl.length c2)
    have KF := Lib.hid (show Keeps No w (stF ws (w.heap.size + 1) (.int .u8 q0) (.int .u32 q1) (.int .u32 q2) (.int .u32 q3) (.int .u32 q4) (.int .u32 q5) (.slice A2 qpl.length c2)) from KS1.out.trans hst (fun i hi => .inr (by have hi : i = w.heap.size + 1 := hi; omega)))
    have HQF := Lib.hid (stF_heap HG1.out (.int .u8 q0) (.int .u32 q1) (.int .u32 q2) (.int .u32 q3) (.int .u32 q4) (.int .u32 q5) (.slice A2 qpl.length c2))
    have HPF := Lib.hid (hst.heap HP1.out (fun h => by have h : w.heap.size = w.heap.size + 1 := h; omega))
    clear hst
    refine wpAnyH_ready (fuel := 0) (rs := [5]) (by kernel_rfl) (by simp) (AllReadyH.cons rfl (fun K hK => ?_) AllReadyH.nil)
    go_simp
    refine hK.out _ _ KF.out (fun _ => ?_)
    clear hK K
    try simp only [Act.put, List.setIfInBounds_toArray, List.set_cons_zero, List.set_cons_succ]
    refine wpAnyH_done (by kernel_rfl) ?_ _
    show Exit.then _ _ _ _ (stF ws (w.heap.size + 1) (.int .u8 q0) (.int .u32 q1) (.int .u32 q2) (.int .u32 q3) (.int .u32 q4) (.int .u32 q5) (.slice A2 qpl.length c2))
    generalize stF ws (w.heap.size + 1) (.int .u8 q0) (.int .u32 q1) (.int .u32 q2) (.int .u32 q3) (.int .u32 q4) (.int .u32 q5) (.slice A2 qpl.length c2) = wf at *
    clear b0 b1 b2 b3 b4 b5 b6 y0 y1 y2 y3 y4 y5 y6
    have RPA := Lib.hid (HRA.out wf (KF.out.rdNo HRF.out))
    have RQA := Lib.hid (HRB.out wf (KF.out.rdNo HRG.out))
    have HTF := Lib.hid (HT.out.keptNo KF.out)
    have HBF := Lib.hid (HTB.out.keptNo KF.out)
    have HS1 := Lib.hid (show ∀ W, Keeps No wf W → Calls Tryd.prog 46 #[.agg #[.int .u8 p0, .int .u32 p1, .int .u32 p2, .int .u32 p3, .int .u32 p4, .int .u32 p5, .slice A1 ppl.length c1]] W (CEnd W (sigL ⟨p0, p1, p2, p3, p4, p5, ppl⟩)) from fun W k => signed_any W ⟨p0, p1, p2, p3, p4, p5, ppl⟩ HFO.out A1 c1 (k.rdNo RPA.out) (HTF.out.keptNo k))
    have HS2 := Lib.hid (show ∀ W, Keeps No wf W → Calls Tryd.prog 46 #[.agg #[.int .u8 q0, .int .u32 q1, .int .u32 q2, .int .u32 q3, .int .u32 q4, .int .u32 q5, .slice A2 qpl.length c2]] W (CEnd W (sigL ⟨q0, q1, q2, q3, q4, q5, qpl⟩)) from fun W k => signed_any W ⟨q0, q1, q2, q3, q4, q5, qpl⟩ HGO.out A2 c2 (k.rdNo RQA.out) (HTF.out.keptNo k))
    rw [HSX.out] at HS1
    rw [HSY.out] at HS2
    have HE1 := Lib.hid (show ∀ W t, Keeps No wf W → t < 18446744073709551616 → Calls Tryd.prog 42 #[.agg #[.int .u8 p0, .int .u32 p1, .int .u32 p2, .int .u32 p3, .int .u32 p4, .int .u32 p5, .slice A1 ppl.length c1], .int .u64 (t : Nat)] W (fun x W' => ∃ r, x = .returned (.tuple #[r, .int .i64 0]) ∧ CPost W (encL ⟨p0, p1, p2, p3, p4, p5, ppl⟩ t) W' r) from fun W t k ht => by
      have h := encode_any W ⟨p0, p1, p2, p3, p4, p5, ppl⟩ HFO.out A1 c1 (k.rdNo RPA.out) (HTF.out.keptNo k) t ht (HBF.out.keptNo k)
      unfold EEnd at h
      rw [show errE ⟨p0, p1, p2, p3, p4, p5, ppl⟩ = 0 from if_pos HFM.out] at h
      exact h)
    have HSB := Lib.hid (show ∀ W, Keeps No wf W → Calls Tryd.prog 51 #[.agg #[.int .u8 p0, .int .u32 p1, .int .u32 p2, .int .u32 p3, .int .u32 p4, .int .u32 p5, .slice A1 ppl.length c1], .agg #[.int .u8 q0, .int .u32 q1, .int .u32 q2, .int .u32 q3, .int .u32 q4, .int .u32 q5, .slice A2 qpl.length c2]] W (fun e w' => e = .returned (.bool (sameB ⟨p0, p1, p2, p3, p4, p5, ppl⟩ ⟨q0, q1, q2, q3, q4, q5, qpl⟩)) ∧ Keeps No W w') from fun W k => psame_any W ⟨p0, p1, p2, p3, p4, p5, ppl⟩ ⟨q0, q1, q2, q3, q4, q5, qpl⟩ A1 A2 c1 c2 (k.rdNo RPA.out) (k.rdNo RQA.out))
    have HLS := Lib.hid (lay_same HFO.out HGO.out)
    have hlx : (layL ⟨p0, p1, p2, p3, p4, p5, ppl⟩).length = 23 + ppl.length := layL_len _
    have HES := Lib.hid (enc_same ⟨p0, p1, p2, p3, p4, p5, ppl⟩ HFM.out tag other htag hoth)
    have HET := Lib.hid (enc_take ⟨p0, p1, p2, p3, p4, p5, ppl⟩ HFM.out)
    have HEL := Lib.hid (enc_len ⟨p0, p1, p2, p3, p4, p5, ppl⟩ HFM.out)
    have HTL := Lib.hid (fun W (k : Keeps No wf W) => tells_any W (HTF.out.keptNo k))
    generalize layL ⟨p0, p1, p2, p3, p4, p5, ppl⟩ = LX at *
    generalize layL ⟨q0, q1, q2, q3, q4, q5, qpl⟩ = LY at *
    generalize sameB ⟨p0, p1, p2, p3, p4, p5, ppl⟩ ⟨q0, q1, q2, q3, q4, q5, qpl⟩ = D at *
    have hnx : ((LX.length : Int) != 23 + (ppl.length : Int)) = false := by
      have : (LX.length : Int) = 23 + (ppl.length : Int) := by omega
      simp [bne, this]
    have hw23 : IntKind.i64.wrap (23 + (ppl.length : Int)) = 23 + (ppl.length : Int) := IntWalk.i64_in _ (by omega)
    have hlx2 : LX.length ≤ 279 := by omega
    have HLX := Lib.hid hlx
    clear hlx
    have a0 : ∀ W, Keeps No wf W → W.cell? ⟨w.heap.size, 0, none⟩ = some (.int .u8 p0) := fun W k => by rw [blk_cell (k.heap HPF.out (fun h => h))]; rfl
    have a1 : ∀ W, Keeps No wf W → W.cell? ⟨w.heap.size, 1, none⟩ = some (.int .u32 p1) := fun W k => by rw [blk_cell (k.heap HPF.out (fun h => h))]; rfl
    have a2 : ∀ W, Keeps No wf W → W.cell? ⟨w.heap.size, 2, none⟩ = some (.int .u32 p2) := fun W k => by rw [blk_cell (k.heap HPF.out (fun h => h))]; rfl
    have a3 : ∀ W, Keeps No wf W → W.cell? ⟨w.heap.size, 3, none⟩ = some (.int .u32 p3) := fun W k => by rw [blk_cell (k.heap HPF.out (fun h => h))]; rfl
    have a4 : ∀ W, Keeps No wf W → W.cell? ⟨w.heap.size, 4, none⟩ = some (.int .u32 p4) := fun W k => by rw [blk_cell (k.heap HPF.out (fun h => h))]; rfl
    have a5 : ∀ W, Keeps No wf W → W.cell? ⟨w.heap.size, 5, none⟩ = some (.int .u32 p5) := fun W k => by rw [blk_cell (k.heap HPF.out (fun h => h))]; rfl
    have a6 : ∀ W, Keeps No wf W → W.cell? ⟨w.heap.size, 6, none⟩ = some (.slice A1 ppl.length c1) := fun W k => by rw [blk_cell (k.heap HPF.out (fun h => h))]; rfl
    have b0 : ∀ W, Keeps No wf W → W.cell? ⟨w.heap.size + 1, 0, none⟩ = some (.int .u8 q0) := fun W k => by rw [blk_cell (k.heap HQF.out (fun h => h))]; rfl
    have b1 : ∀ W, Keeps No wf W → W.cell? ⟨w.heap.size + 1, 1, none⟩ = some (.int .u32 q1) := fun W k => by rw [blk_cell (k.heap HQF.out (fun h => h))]; rfl
    have b2 : ∀ W, Keeps No wf W → W.cell? ⟨w.heap.size + 1, 2, none⟩ = some (.int .u32 q2) := fun W k => by rw [blk_cell (k.heap HQF.out (fun h => h))]; rfl
    have b3 : ∀ W, Keeps No wf W → W.cell? ⟨w.heap.size + 1, 3, none⟩ = some (.int .u32 q3) := fun W k => by rw [blk_cell (k.heap HQF.out (fun h => h))]; rfl
    have b4 : ∀ W, Keeps No wf W → W.cell? ⟨w.heap.size + 1, 4, none⟩ = some (.int .u32 q4) := fun W k => by rw [blk_cell (k.heap HQF.out (fun h => h))]; rfl
    have b5 : ∀ W, Keeps No wf W → W.cell? ⟨w.heap.size + 1, 5, none⟩ = some (.int .u32 q5) := fun W k => by rw [blk_cell (k.heap HQF.out (fun h => h))]; rfl
    have b6 : ∀ W, Keeps No wf W → W.cell? ⟨w.heap.size + 1, 6, none⟩ = some (.slice A2 qpl.length c2) := fun W k => by rw [blk_cell (k.heap HQF.out (fun h => h))]; rfl
    go_wp2_with fail
    have hk6 := (Keeps.refl No wf).drew
    have hkl := (Keeps.refl No wf).drew
    refine wp_region_held_drew (S := fun W => Keeps No wf W ∧ Keeps No wf W) (by kernel_rfl) ⟨hk6, hkl⟩ (fun _ => ?_)
    refine wpAnyH_got (fuel := 5) (i := 0) (d := 19) (v := ?_) rfl rfl (by kernel_rfl) (by kernel_rfl) (by kernel_rfl) (fun _ _ _ h => h) (Or.inl ⟨by rfl, ?_⟩) ⟨hk6, hkl⟩ ?_
    rotate_left
    focus (intro W hSw; go_simp; try (with_reducible rfl))
    try simp only [Act.put, List.setIfInBounds_toArray, List.set_cons_zero, List.set_cons_succ]
    refine wpAnyH_got (fuel := 4) (i := 2) (d := 21) (v := ?_) rfl rfl (by kernel_rfl) (by kernel_rfl) (by kernel_rfl) (fun _ _ _ h => h) (Or.inl ⟨by rfl, ?_⟩) ⟨hk6, hkl⟩ ?_
    rotate_left
    focus (intro W hSw; go_simp; try (with_reducible rfl))
    try simp only [Act.put, List.setIfInBounds_toArray, List.set_cons_zero, List.set_cons_succ]
    refine wpAnyH_only (fuel := 3) (i := 1) (by kernel_rfl) rfl (fun K hK => ?_)
    go_simp
    refine (HS1.out _ hk6).mono ?_
    rintro e wx ⟨r, rfl, hx⟩
    obtain ⟨Ax, cx, rfl, hcx, hRx⟩ := hx.row.rd
    have hkx := hx.keeps
    have HRX := Lib.hid hRx
    clear hx hRx
    try (go_wp2_with fail)
    refine hK.out _ _ ⟨⟨hk6.then hkx, hkl.then hkx⟩, ?_⟩
    clear hK K
    refine wpAnyH_strong (S' := fun W => Keeps No wf W ∧ Keeps No wx W) (fun W k => ⟨k.1, hkl.then (hkx.then k.2)⟩) _ _ _ _ ?_
    replace hk6 := hk6.then hkx
    replace hkl := Keeps.refl No wx
    clear hkx
    try simp only [Act.put, List.setIfInBounds_toArray, List.set_cons_zero, List.set_cons_succ]
    refine wpAnyH_only (fuel := 2) (i := 3) (by kernel_rfl) rfl (fun K hK => ?_)
    go_simp
    refine (HS2.out _ hk6).mono ?_
    rintro e wy2 ⟨r, rfl, hx⟩
    obtain ⟨Ay, cy, rfl, hcy, hRx⟩ := hx.row.rd
    have hkx := hx.keeps
    have HRY0 := Lib.hid hRx
    clear hx hRx
    have HRX1 := Lib.hid (hkx.rdNo HRX.out)
    have HRX := HRX1
    try (go_wp2_with fail)
    refine hK.out _ _ ⟨⟨hk6.then hkx, hkl.then hkx⟩, ?_⟩
    clear hK K
    refine wpAnyH_strong (S' := fun W => Keeps No wf W ∧ Keeps No wy2 W) (fun W k => ⟨k.1, hkl.then (hkx.then k.2)⟩) _ _ _ _ ?_
    replace hk6 := hk6.then hkx
    replace hkl := Keeps.refl No wy2
    clear hkx
    try simp only [Act.put, List.setIfInBounds_toArray, List.set_cons_zero, List.set_cons_succ]
    refine wpAnyH_got (fuel := 1) (i := 4) (d := 9) (v := ?_) rfl rfl (by kernel_rfl) (by kernel_rfl) (by kernel_rfl) (fun _ _ _ h => h) (Or.inl ⟨by rfl, ?_⟩) ⟨hk6, hkl⟩ ?_
    rotate_left
    focus (intro W hSw; go_simp; try (with_reducible rfl))
    try simp only [Act.put, List.setIfInBounds_toArray, List.set_cons_zero, List.set_cons_succ]
    refine wpAnyH_got (fuel := 0) (i := 5) (d := 10) (v := ?_) rfl rfl (by kernel_rfl) (by kernel_rfl) (by kernel_rfl) (fun _ _ _ h => h) (Or.inl ⟨by rfl, ?_⟩) ⟨hk6, hkl⟩ ?_
    rotate_left
    focus (intro W hSw; go_simp; try (with_reducible rfl))
    try simp only [Act.put, List.setIfInBounds_toArray, List.set_cons_zero, List.set_cons_succ]
    refine wpAnyH_done (by kernel_rfl) ?_ _
    have K2 := Lib.hid hk6
    have HRY := HRY0
    clear hk6 hkl
    have HQ1 := Lib.hid (show ∀ W, Keeps No wy2 W → Calls Tryd.prog 50 #[.slice Ax LX.length cx, .slice Ay LY.length cy] W (fun e w' => e = .returned (.bool D) ∧ Keeps No W w') from fun W k => by
      have h := sequal_any W Ax Ay _ _ cx cy LX LY (k.rdNo HRX.out) (k.rdNo HRY.out)
      rw [HLS.out] at h
      exact h)
    have a0 : ∀ W, Keeps No wy2 W → W.cell? ⟨w.heap.size, 0, none⟩ = some (.int .u8 p0) := fun W k => a0 W (K2.out.then k)
    have a1 : ∀ W, Keeps No wy2 W → W.cell? ⟨w.heap.size, 1, none⟩ = some (.int .u32 p1) := fun W k => a1 W (K2.out.then k)
    have a2 : ∀ W, Keeps No wy2 W → W.cell? ⟨w.heap.size, 2, none⟩ = some (.int .u32 p2) := fun W k => a2 W (K2.out.then k)
    have a3 : ∀ W, Keeps No wy2 W → W.cell? ⟨w.heap.size, 3, none⟩ = some (.int .u32 p3) := fun W k => a3 W (K2.out.then k)
    have a4 : ∀ W, Keeps No wy2 W → W.cell? ⟨w.heap.size, 4, none⟩ = some (.int .u32 p4) := fun W k => a4 W (K2.out.then k)
    have a5 : ∀ W, Keeps No wy2 W → W.cell? ⟨w.heap.size, 5, none⟩ = some (.int .u32 p5) := fun W k => a5 W (K2.out.then k)
    have a6 : ∀ W, Keeps No wy2 W → W.cell? ⟨w.heap.size, 6, none⟩ = some (.slice A1 ppl.length c1) := fun W k => a6 W (K2.out.then k)
    have b0 : ∀ W, Keeps No wy2 W → W.cell? ⟨w.heap.size + 1, 0, none⟩ = some (.int .u8 q0) := fun W k => b0 W (K2.out.then k)
    have b1 : ∀ W, Keeps No wy2 W → W.cell? ⟨w.heap.size + 1, 1, none⟩ = some (.int .u32 q1) := fun W k => b1 W (K2.out.then k)
    have b2 : ∀ W, Keeps No wy2 W → W.cell? ⟨w.heap.size + 1, 2, none⟩ = some (.int .u32 q2) := fun W k => b2 W (K2.out.then k)
    have b3 : ∀ W, Keeps No wy2 W → W.cell? ⟨w.heap.size + 1, 3, none⟩ = some (.int .u32 q3) := fun W k => b3 W (K2.out.then k)
    have b4 : ∀ W, Keeps No wy2 W → W.cell? ⟨w.heap.size + 1, 4, none⟩ = some (.int .u32 q4) := fun W k => b4 W (K2.out.then k)
    have b5 : ∀ W, Keeps No wy2 W → W.cell? ⟨w.heap.size + 1, 5, none⟩ = some (.int .u32 q5) := fun W k => b5 W (K2.out.then k)
    have b6 : ∀ W, Keeps No wy2 W → W.cell? ⟨w.heap.size + 1, 6, none⟩ = some (.slice A2 qpl.length c2) := fun W k => b6 W (K2.out.then k)
    go_wp2_with fail
    have hk6 := (Keeps.refl No wy2).drew
    have hkl := (Keeps.refl No wy2).drew
    refine wp_region_held_drew (S := fun W => Keeps No wy2 W ∧ Keeps No wy2 W) (by kernel_rfl) ⟨hk6, hkl⟩ (fun _ => ?_)
    refine wpAnyH_got (fuel := 15) (i := 0) (d := 23) (v := ?_) rfl rfl (by kernel_rfl) (by kernel_rfl) (by kernel_rfl) (fun _ _ _ h => h) (Or.inl ⟨by rfl, ?_⟩) ⟨hk6, hkl⟩ ?_
    rotate_left
    focus (intro W hSw; go_simp; try (with_reducible rfl))
    try simp only [Act.put, List.setIfInBounds_toArray, List.set_cons_zero, List.set_cons_succ]
    refine wpAnyH_got (fuel := 14) (i := 1) (d := 24) (v := ?_) rfl rfl (by kernel_rfl) (by kernel_rfl) (by kernel_rfl) (fun _ _ _ h => h) (Or.inl ⟨by rfl, ?_⟩) ⟨hk6, hkl⟩ ?_
    rotate_left
    focus (intro W hSw; go_simp; try (with_reducible rfl))
    try simp only [Act.put, List.setIfInBounds_toArray, List.set_cons_zero, List.set_cons_succ]
    refine wpAnyH_got (fuel := 13) (i := 3) (d := 26) (v := ?_) rfl rfl (by kernel_rfl) (by kernel_rfl) (by kernel_rfl) (fun _ _ _ h => h) (Or.inl ⟨by rfl, ?_⟩) ⟨hk6, hkl⟩ ?_
    rotate_left
    focus (intro W hSw; go_simp; try (with_reducible rfl))
    try simp only [Act.put, List.setIfInBounds_toArray, List.set_cons_zero, List.set_cons_succ]
    refine wpAnyH_got (fuel := 12) (i := 4) (d := 27) (v := ?_) rfl rfl (by kernel_rfl) (by kernel_rfl) (by kernel_rfl) (fun _ _ _ h => h) (Or.inl ⟨by rfl, ?_⟩) ⟨hk6, hkl⟩ ?_
    rotate_left
    focus (intro W hSw; go_simp; try (with_reducible rfl))
    try simp only [Act.put, List.setIfInBounds_toArray, List.set_cons_zero, List.set_cons_succ]
    refine wpAnyH_only (fuel := 11) (i := 2) (by kernel_rfl) rfl (fun K hK => ?_)
    go_simp
    refine (HQ1.out _ hk6).mono ?_
    rintro e wz1 ⟨rfl, hkx⟩
    try (go_wp2_with fail)
    refine hK.out _ _ ⟨⟨hk6.then hkx, hkl.then hkx⟩, ?_⟩
    clear hK K
    refine wpAnyH_strong (S' := fun W => Keeps No wy2 W ∧ Keeps No wz1 W) (fun W k => ⟨k.1, hkl.then (hkx.then k.2)⟩) _ _ _ _ ?_
    replace hk6 := hk6.then hkx
    replace hkl := Keeps.refl No wz1
    clear hkx
    try simp only [Act.put, List.setIfInBounds_toArray, List.set_cons_zero, List.set_cons_succ]
    refine wpAnyH_only (fuel := 10) (i := 5) (by kernel_rfl) rfl (fun K hK => ?_)
    go_simp
    refine (HSB.out _ (K2.out.then hk6)).mono ?_
    rintro e wz2 ⟨rfl, hkx⟩
    try (go_wp2_with fail)
    refine hK.out _ _ ⟨⟨hk6.then hkx, hkl.then hkx⟩, ?_⟩
    clear hK K
    refine wpAnyH_strong (S' := fun W => Keeps No wy2 W ∧ Keeps No wz2 W) (fun W k => ⟨k.1, hkl.then (hkx.then k.2)⟩) _ _ _ _ ?_
    replace hk6 := hk6.then hkx
    replace hkl := Keeps.refl No wz2
    clear hkx
    try simp only [Act.put, List.setIfInBounds_toArray, List.set_cons_zero, List.set_cons_succ]
    refine wpAnyH_got (fuel := 9) (i := 6) (d := 29) (v := ?_) rfl rfl (by kernel_rfl) (by kernel_rfl) (by kernel_rfl) (fun _ _ _ h => h) (Or.inl ⟨by rfl, ?_⟩) ⟨hk6, hkl⟩ ?_
    rotate_left
    focus (intro W hSw; go_simp; try (with_reducible rfl))
    try simp only [Act.put, List.setIfInBounds_toArray, List.set_cons_zero, List.set_cons_succ]
    refine wpAnyH_got (fuel := 8) (i := 7) (d := 30) (v := ?_) rfl rfl (by kernel_rfl) (by kernel_rfl) (by kernel_rfl) (fun _ _ _ h => h) (Or.inl ⟨by rfl, ?_⟩) ⟨hk6, hkl⟩ ?_
    rotate_left
    focus (intro W hSw; go_simp; try (with_reducible rfl))
    try simp only [Act.put, List.setIfInBounds_toArray, List.set_cons_zero, List.set_cons_succ]
    refine wpAnyH_got (fuel := 7) (i := 8) (d := 31) (v := ?_) rfl rfl (by kernel_rfl) (by kernel_rfl) (by kernel_rfl) (fun _ _ _ h => h) (Or.inl ⟨by rfl, ?_⟩) ⟨hk6, hkl⟩ ?_
    rotate_left
    focus (intro W hSw; go_simp; try (with_reducible rfl))
    try simp only [Act.put, List.setIfInBounds_toArray, List.set_cons_zero, List.set_cons_succ]
    refine wpAnyH_got (fuel := 6) (i := 9) (d := 32) (v := ?_) rfl rfl (by kernel_rfl) (by kernel_rfl) (by kernel_rfl) (fun _ _ _ h => h) (Or.inl ⟨by rfl, ?_⟩) ⟨hk6, hkl⟩ ?_
    rotate_left
    focus (intro W hSw; go_simp; try (with_reducible rfl))
    try simp only [Act.put, List.setIfInBounds_toArray, List.set_cons_zero, List.set_cons_succ]
    refine wpAnyH_got (fuel := 5) (i := 10) (d := 33) (v := ?_) rfl rfl (by kernel_rfl) (by kernel_rfl) (by kernel_rfl) (fun _ _ _ h => h) (Or.inl ⟨by rfl, ?_⟩) ⟨hk6, hkl⟩ ?_
    rotate_left
    focus (intro W hSw; go_simp; try (with_reducible rfl))
    try simp only [Act.put, List.setIfInBounds_toArray, List.set_cons_zero, List.set_cons_succ]
    refine wpAnyH_got (fuel := 4) (i := 11) (d := 34) (v := ?_) rfl rfl (by kernel_rfl) (by kernel_rfl) (by kernel_rfl) (fun _ _ _ h => h) (Or.inl ⟨by rfl, ?_⟩) ⟨hk6, hkl⟩ ?_
    rotate_left
    focus (intro W hSw; go_simp; try (with_reducible rfl))
    try simp only [Act.put, List.setIfInBounds_toArray, List.set_cons_zero, List.set_cons_succ]
    refine wpAnyH_got (fuel := 3) (i := 12) (d := 35) (v := ?_) rfl rfl (by kernel_rfl) (by kernel_rfl) (by kernel_rfl) (fun _ _ _ h => h) (Or.inl ⟨by rfl, ?_⟩) ⟨hk6, hkl⟩ ?_
    rotate_left
    focus (intro W hSw; go_simp; try (with_reducible rfl))
    try simp only [Act.put, List.setIfInBounds_toArray, List.set_cons_zero, List.set_cons_succ]
    refine wpAnyH_got (fuel := 2) (i := 13) (d := 36) (v := ?_) rfl rfl (by kernel_rfl) (by kernel_rfl) (by kernel_rfl) (fun _ _ _ h => h) (Or.inl ⟨by rfl, ?_⟩) ⟨hk6, hkl⟩ ?_
    rotate_left
    focus (intro W hSw; go_simp; try (with_reducible rfl))
    try simp only [Act.put, List.setIfInBounds_toArray, List.set_cons_zero, List.set_cons_succ]
    refine wpAnyH_got (fuel := 1) (i := 14) (d := 37) (v := ?_) rfl rfl (by kernel_rfl) (by kernel_rfl) (by kernel_rfl) (fun _ _ _ h => h) (Or.inl ⟨by rfl, ?_⟩) ⟨hk6, hkl⟩ ?_
    rotate_left
    focus (intro W hSw; go_simp; try (with_reducible rfl))
    try simp only [Act.put, List.setIfInBounds_toArray, List.set_cons_zero, List.set_cons_succ]
    refine wpAnyH_got (fuel := 0) (i := 15) (d := 38) (v := ?_) rfl rfl (by kernel_rfl) (by kernel_rfl) (by kernel_rfl) (fun _ _ _ h => h) (Or.inl ⟨by rfl, ?_⟩) ⟨hk6, hkl⟩ ?_
    rotate_left
    focus (intro W hSw; go_simp; try (with_reducible rfl))
    try simp only [Act.put, List.setIfInBounds_toArray, List.set_cons_zero, List.set_cons_succ]
    refine wpAnyH_done (by kernel_rfl) ?_ _
    have K3 := Lib.hid hk6
    clear hk6 hkl
    have a0 : wz2.cell? ⟨w.heap.size, 0, none⟩ = some (.int .u8 p0) := a0 _ K3.out
    have a1 : wz2.cell? ⟨w.heap.size, 1, none⟩ = some (.int .u32 p1) := a1 _ K3.out
    have a2 : wz2.cell? ⟨w.heap.size, 2, none⟩ = some (.int .u32 p2) := a2 _ K3.out
    have a3 : wz2.cell? ⟨w.heap.size, 3, none⟩ = some (.int .u32 p3) := a3 _ K3.out
    have a4 : wz2.cell? ⟨w.heap.size, 4, none⟩ = some (.int .u32 p4) := a4 _ K3.out
    have a5 : wz2.cell? ⟨w.heap.size, 5, none⟩ = some (.int .u32 p5) := a5 _ K3.out
    have a6 : wz2.cell? ⟨w.heap.size, 6, none⟩ = some (.slice A1 ppl.length c1) := a6 _ K3.out
    clear b0 b1 b2 b3 b4 b5 b6 hw23 hnx
    have K4 := Lib.hid (K2.out.then K3.out)
    go_wp2_with fail
    refine (HE1.out _ tag K4.out htag).mono ?_
    rintro e we1 ⟨r, rfl, h1⟩
    obtain ⟨Ac, cc, rfl, hcc, hRc⟩ := h1.row.rd
    have K5 := Lib.hid (K4.out.then h1.keeps)
    have K35 := Lib.hid (K3.out.then h1.keeps)
    have HRC := Lib.hid hRc
    clear h1 hRc a0 a1 a2 a3 a4 a5 a6
    have a0 : we1.cell? ⟨w.heap.size, 0, none⟩ = some (.int .u8 p0) := by rw [blk_cell (K5.out.heap HPF.out (fun h => h))]; rfl
    have a1 : we1.cell? ⟨w.heap.size, 1, none⟩ = some (.int .u32 p1) := by rw [blk_cell (K5.out.heap HPF.out (fun h => h))]; rfl
    have a2 : we1.cell? ⟨w.heap.size, 2, none⟩ = some (.int .u32 p2) := by rw [blk_cell (K5.out.heap HPF.out (fun h => h))]; rfl
    have a3 : we1.cell? ⟨w.heap.size, 3, none⟩ = some (.int .u32 p3) := by rw [blk_cell (K5.out.heap HPF.out (fun h => h))]; rfl
    have a4 : we1.cell? ⟨w.heap.size, 4, none⟩ = some (.int .u32 p4) := by rw [blk_cell (K5.out.heap HPF.out (fun h => h))]; rfl
    have a5 : we1.cell? ⟨w.heap.size, 5, none⟩ = some (.int .u32 p5) := by rw [blk_cell (K5.out.heap HPF.out (fun h => h))]; rfl
    have a6 : we1.cell? ⟨w.heap.size, 6, none⟩ = some (.slice A1 ppl.length c1) := by rw [blk_cell (K5.out.heap HPF.out (fun h => h))]; rfl
    go_wp2_with fail
    refine (HE1.out _ other K5.out hoth).mono ?_
    rintro e we2 ⟨r, rfl, h2⟩
    obtain ⟨Ad, cd, rfl, hcd, hRd⟩ := h2.row.rd
    have K6 := Lib.hid (K5.out.then h2.keeps)
    have HRC2 := Lib.hid (h2.keeps.rdNo HRC.out)
    have HRD := Lib.hid hRd
    have HRX2 := Lib.hid ((K35.out.then h2.keeps).rdNo HRX.out)
    have HLC0 := Lib.hid (HEL.out tag)
    have HTC := Lib.hid (HET.out tag)
    have HEC := Lib.hid HES.out
    have HEL2 := Lib.hid (HEL.out other)
    have HTD := Lib.hid (HET.out other)
    clear h2 hRd a0 a1 a2 a3 a4 a5 a6
    generalize encL ⟨p0, p1, p2, p3, p4, p5, ppl⟩ tag = LC at *
    generalize encL ⟨p0, p1, p2, p3, p4, p5, ppl⟩ other = LD at *
    have HLC : LX.length ≤ LC.length := by have := HLC0.out; omega
    have hcutc : ∀ W : World, (Instr.slice 22 (.slice Ac LC.length cc) none (some (.int .i64 (LX.length : Int))) none).run Tryd.prog W = .ok (.slice Ac LX.length cc) W := fun W => by
      obtain ⟨i0, hi0, _, _, _⟩ := info_parts Tryd.info5
      have h := cut_to (P := Tryd.prog) 22 5 .i64 Tryd.underlying22 hi0 Ac LC.length cc (LX.length : Int) (by omega) (by omega) hcc W
      rwa [Int.toNat_natCast] at h
    have HLD : LX.length ≤ LD.length := by have := HEL2.out; omega
    have hcutd : ∀ W : World, (Instr.slice 22 (.slice Ad LD.length cd) none (some (.int .i64 (LX.length : Int))) none).run Tryd.prog W = .ok (.slice Ad LX.length cd) W := fun W => by
      obtain ⟨i0, hi0, _, _, _⟩ := info_parts Tryd.info5
      have h := cut_to (P := Tryd.prog) 22 5 .i64 Tryd.underlying22 hi0 Ad LD.length cd (LX.length : Int) (by omega) (by omega) hcd W
      rwa [Int.toNat_natCast] at h
    have HQC := Lib.hid (show ∀ W, Keeps No we2 W → Calls Tryd.prog 50 #[.slice Ac LX.length cc, .slice Ax LX.length cx] W (fun e w' => e = .returned (.bool true) ∧ Keeps No W w') from fun W k => by
      have hr := (k.rdNo HRC2.out).take LX.length (by omega)
      rw [HTC.out] at hr
      have h := sequal_any W Ac Ax _ _ cc cx LX LX hr (k.rdNo HRX2.out)
      rw [decide_eq_true rfl] at h
      exact h)
    have HQD := Lib.hid (show ∀ W, Keeps No we2 W → Calls Tryd.prog 50 #[.slice Ad LX.length cd, .slice Ax LX.length cx] W (fun e w' => e = .returned (.bool true) ∧ Keeps No W w') from fun W k => by
      have hr := (k.rdNo HRD.out).take LX.length (by omega)
      rw [HTD.out] at hr
      have h := sequal_any W Ad Ax _ _ cd cx LX LX hr (k.rdNo HRX2.out)
      rw [decide_eq_true rfl] at h
      exact h)
    have HQE := Lib.hid (show ∀ W, Keeps No we2 W → Calls Tryd.prog 50 #[.slice Ac LC.length cc, .slice Ad LD.length cd] W (fun e w' => e = .returned (.bool (decide (tag = other))) ∧ Keeps No W w') from fun W k => by
      have h := sequal_any W Ac Ad _ _ cc cd LC LD (k.rdNo HRC2.out) (k.rdNo HRD.out)
      rw [HEC.out] at h
      exact h)
    have hbt : ((tag : Int) == (other : Int)) = decide (tag = other) := beq_int tag other
    generalize decide (tag = other) = D2 at *
    clear HES HEL HET HE1
    go_wp2_with fail
    refine (HQC.out _ (Keeps.refl _ _)).mono ?_
    rintro e we3 ⟨rfl, h3⟩
    have K7 := Lib.hid h3
    clear h3
    go_wp2_with fail
    refine (HQD.out _ K7.out).mono ?_
    rintro e we4 ⟨rfl, h4⟩
    have K8 := Lib.hid (K7.out.then h4)
    clear h4
    go_wp2_with fail
    refine (HQE.out _ K8.out).mono ?_
    rintro e we5 ⟨rfl, h5⟩
    have K9 := Lib.hid (K8.out.then h5)
    clear h5
    go_wp2_with fail
    refine (HTL.out _ (K6.out.then K9.out)).mono ?_
    rintro e we6 ⟨rfl, h6⟩
    have K10 := Lib.hid (KF.out.then (K6.out.then (K9.out.then h6)))
    clear h6
    go_wp2
    go_ret
    exact ⟨rfl, K10.out⟩
theorem frameSigned_walk' (w : World) (f : Frm) (hf : f.Ok) (A : Option Addr) (c : Nat) (hR : Rd w A f.pl.length f.pl) (hc : f.pl.length ≤ c) (g : Frm) (hg : g.Ok) (A' : Option Addr) (c' : Nat) (hR' : Rd w A' g.pl.length g.pl) (hc' : g.pl.length ≤ c')
    (tag : Int) (h0 : 0 ≤ tag) (h1 : tag < 18446744073709551616) (other : Int) (h2 : 0 ≤ other) (h3 : other < 18446744073709551616) (hTab : Tabb w) (hT : MayT w) :
    Calls Tryd.prog 10 #[.agg (f.cs (.slice A f.pl.length c)), .agg (g.cs (.slice A' g.pl.length c')), .int .u64 tag, .int .u64 other] w fun e w' => e = .returned (.bool true) ∧ Keeps No w w' := by
  have h := frameSigned_walk w f g hf hg A A' c c' hR hR' hc hc' tag.toNat other.toNat (by omega) (by omega) hTab hT
  rwa [Int.toNat_of_nonneg h0, Int.toNat_of_nonneg h2] at h
end Go.Proofs.YtieipnnpkngegaaDoor
