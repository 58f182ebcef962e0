/- The walk of the law FrameLays. -/
import Derived.Test.YtieipnnpkngegaaDoorFt
import Derived.Test.YtieipnnpkngegaaDoorRg
namespace Go.Proofs.YtieipnnpkngegaaDoor
open Go.RowKit Go.Proofs.YtieipnnpkngegaaDoorW.PrintWords

set_option linter.unusedSimpArgs false in
set_option maxRecDepth 100000 in
set_option maxHeartbeats 6400000 in
theorem frameLays_walk (w : World) (f : Frm) (hf : f.Ok) (A : Option Addr) (c : Nat) (hR : Rd w A f.pl.length f.pl) (hc : f.pl.length ≤ c) (tag : Nat) (htag : tag < 18446744073709551616) (hTab : Tabb w) (hT : MayT w) :
    Calls Tryd.prog 9 #[.agg (f.cs (.slice A f.pl.length c)), .int .u64 tag] w fun e w' => e = .returned (.bool true) ∧ Keeps No w w' := by
  obtain ⟨kind, ses, ep, num, ack, mask, pl⟩ := f
  simp only [Frm.cs] at hf hR hc ⊢
  have HR := Lib.hid hR
  have HF := Lib.hid hf
  have HTB := Lib.hid hTab
  have HT := Lib.hid hT
  have hmin := min_num pl.length 400 400 rfl
  clear hR hf hTab hT
  go_enter Tryd.func9, Tryd.ntmps9
  go_wp2_with fail
  have hk := (Keeps.refl No w).alloc (.cells #[.int .u8 kind, .int .u32 ses, .int .u32 ep, .int .u32 num, .int .u32 ack, .int .u32 mask, .slice A (min pl.length 400) c] 68)
  have hnew := heap_alloc_new w (.cells #[.int .u8 kind, .int .u32 ses, .int .u32 ep, .int .u32 num, .int .u32 ack, .int .u32 mask, .slice A (min pl.length 400) c] 68)
  have hpl : (pl.take (min pl.length 400)).length = min pl.length 400 := by rw [List.length_take]; omega
  have RP := Lib.hid (HR.out.take (min pl.length 400) (by omega))
  have hm400 : min pl.length 400 ≤ 400 := by omega
  have hmpl : min pl.length 400 ≤ pl.length := by omega
  generalize min pl.length 400 = m at *
  have HG := Lib.hid (show Frm.Ok ⟨kind, ses, ep, num, ack, mask, pl.take m⟩ from ⟨HF.out.kind, HF.out.ses, HF.out.ep, HF.out.num, HF.out.ack, HF.out.mask⟩)
  generalize pl.take m = q at *
  subst hpl
  refine (of_any _ ⟨kind, ses, ep, num, ack, mask, q⟩ HG.out A q.length c).mono ?_
  rintro e w1 ⟨rfl, hk1⟩
  simp only [Frm.rs]
  have K1 := Lib.hid (hk.then hk1)
  have hb := hk1.heap hnew (fun h => h)
  have HB := Lib.hid hb
  have c6 : ∀ o, (w1.alloc o).cell? ⟨w.heap.size, 6, none⟩ = some (.slice A q.length c) := fun o => by rw [blk_cell (((Keeps.refl No w1).alloc o).heap hb (fun h => h))]; rfl
  have hsl := hk1.size
  simp only [World.size_alloc] at hsl
  clear hk hnew hk1 hb
  have hb2 := heap_alloc_new w1 (.cells #[.int .i64 kind, .int .u32 ses, .int .u32 ep, .int .u32 num, .int .u32 ack, .int .u32 mask, .slice A q.length c] 70)
  have K2 := Lib.hid (K1.out.alloc (.cells #[.int .i64 kind, .int .u32 ses, .int .u32 ep, .int .u32 num, .int .u32 ack, .int .u32 mask, .slice A q.length c] 70))
  have HB2 := Lib.hid (((Keeps.refl No w1).alloc (.cells #[.int .i64 kind, .int .u32 ses, .int .u32 ep, .int .u32 num, .int .u32 ack, .int .u32 mask, .slice A q.length c] 70)).heap HB.out (fun h => h))
  have HD2 := Lib.hid hb2
  have HX := Lib.hid (show ∃ w2, w2 = w1.alloc (.cells #[.int .i64 kind, .int .u32 ses, .int .u32 ep, .int .u32 num, .int .u32 ack, .int .u32 mask, .slice A q.length c] 70) from ⟨_, rfl⟩)
  clear hb2
  go_wp2_with (at_builtin; go_loud (refine print_append_row_of B8 0 w1.heap.size rfl (.const (.slice none 0 0)) (.tmp 21) 22 5 (.int .u8 0) 1 rfl Tryd.underlying22 Tryd.info5 rfl (by decide) B8_one (.slice none 0 0) [] q A q.length c rfl rfl (Ow.nil _ _) (by exact K2.out.rdNo RP.out) (Below.refl _ _) (by simp) (by simp; omega) ?_; intro v3 w3 hown hB hgr hat; have K3 := Lib.hid (Keeps.of_grown hgr); have K3 := Lib.hid (show Keeps No _ w3 from K3.out.mono (fun k h => by cases h)); obtain ⟨A3, c3, rfl, hc3, hR3⟩ := (show Ow w3 w1.heap.size v3 ([] ++ q) from hown).rd; have O3 := Lib.hid hown; have hd3 := K3.out.heap HD2.out (fun h => h); have e6 : w3.cell? ⟨w1.heap.size, 6, none⟩ = some (.slice A q.length c) := (by rw [blk_cell hd3]; rfl); have f6 : w3.frozen? ⟨w1.heap.size, 6, none⟩ = false := blk_frozen hd3 6; have hb3 := K3.out.heap HB2.out (fun h => h); have hst := fun X => (Keeps.refl (fun q => q = w1.heap.size) w3).setCell (p := ⟨w1.heap.size, 6, none⟩) (.inl rfl) X; have x0 : ∀ X, (w3.setCell ⟨w1.heap.size, 6, none⟩ X).cell? ⟨w.heap.size, 0, none⟩ = some (.int .u8 kind) := (fun X => by rw [blk_cell ((hst X).heap hb3 (fun e => by have e : w.heap.size = w1.heap.size := e; omega))]; rfl); have x1 : ∀ X, (w3.setCell ⟨w1.heap.size, 6, none⟩ X).cell? ⟨w.heap.size, 1, none⟩ = some (.int .u32 ses) := (fun X => by rw [blk_cell ((hst X).heap hb3 (fun e => by have e : w.heap.size = w1.heap.size := e; omega))]; rfl); have x2 : ∀ X, (w3.setCell ⟨w1.heap.size, 6, none⟩ X).cell? ⟨w.heap.size, 2, none⟩ = some (.int .u32 ep) := (fun X => by rw [blk_cell ((hst X).heap hb3 (fun e => by have e : w.heap.size = w1.heap.size := e; omega))]; rfl); have x3 : ∀ X, (w3.setCell ⟨w1.heap.size, 6, none⟩ X).cell? ⟨w.heap.size, 3, none⟩ = some (.int .u32 num) := (fun X => by rw [blk_cell ((hst X).heap hb3 (fun e => by have e : w.heap.size = w1.heap.size := e; omega))]; rfl); have x4 : ∀ X, (w3.setCell ⟨w1.heap.size, 6, none⟩ X).cell? ⟨w.heap.size, 4, none⟩ = some (.int .u32 ack) := (fun X => by rw [blk_cell ((hst X).heap hb3 (fun e => by have e : w.heap.size = w1.heap.size := e; omega))]; rfl); have x5 : ∀ X, (w3.setCell ⟨w1.heap.size, 6, none⟩ X).cell? ⟨w.heap.size, 5, none⟩ = some (.int .u32 mask) := (fun X => by rw [blk_cell ((hst X).heap hb3 (fun e => by have e : w.heap.size = w1.heap.size := e; omega))]; rfl); have x6 : ∀ X, (w3.setCell ⟨w1.heap.size, 6, none⟩ X).cell? ⟨w.heap.size, 6, none⟩ = some (.slice A q.length c) := (fun X => by rw [blk_cell ((hst X).heap hb3 (fun e => by have e : w.heap.size = w1.heap.size := e; omega))]; rfl); have HST := Lib.hid hst; have HB3 := Lib.hid hb3; clear hst hb3; have HD3 := Lib.hid hd3; clear hd3 hown hB hgr hat hR3))
  have OS := own_setCell (p := ⟨w1.heap.size, 6, none⟩) O3.out (own_ne O3.out HD3.out (by decide)) (.slice A3 q.length c3)
  have K4 := Lib.hid ((K2.out.then K3.out).trans (HST.out (.slice A3 q.length c3)) (fun i hi => .inr (by have hi : i = w1.heap.size := hi; omega)))
  have HB4 := Lib.hid ((HST.out (.slice A3 q.length c3)).heap HB3.out (fun e => by have e : w.heap.size = w1.heap.size := e; omega))
  have HD4 := Lib.hid (show (w3.setCell ⟨w1.heap.size, 6, none⟩ (.slice A3 q.length c3)).heap[w1.heap.size]? = some (.cells #[.int .i64 kind, .int .u32 ses, .int .u32 ep, .int .u32 num, .int .u32 ack, .int .u32 mask, .slice A3 q.length c3] 70 (0, 0)) from by simpa using blk_set HD3.out 6 (.slice A3 q.length c3))
  obtain ⟨A3', c3', e3, _, hR3⟩ := (show Ow (w3.setCell ⟨w1.heap.size, 6, none⟩ (.slice A3 q.length c3)) w1.heap.size (.slice A3 q.length c3) q from OS).rd
  have e3a : A3 = A3' := by injection e3
  subst e3a
  have R3 := Lib.hid hR3
  have RP4 := Lib.hid (K4.out.rdNo RP.out)
  generalize w3.setCell ⟨w1.heap.size, 6, none⟩ (.slice A3 q.length c3) = w4 at *
  clear OS hR3 e3 x0 x1 x2 x3 x4 x5 x6 e6 f6 c6
  refine (encode_any w4 ⟨kind, ses, ep, num, ack, mask, q⟩ HG.out A c RP4.out (HT.out.keptNo K4.out) tag htag (HTB.out.keptNo K4.out)).mono ?_
  rintro e w5 ⟨r5, rfl, h5⟩
  have K5 := Lib.hid (K4.out.then h5.keeps)
  have HB5 := Lib.hid (h5.keeps.heap HB4.out (fun h => h))
  have hd5 := h5.keeps.heap HD4.out (fun h => h)
  have HD5 := Lib.hid hd5
  have R5 := Lib.hid h5.row
  have R35 := Lib.hid (h5.keeps.rdNo R3.out)
  have y0 : w5.cell? ⟨w1.heap.size, 0, none⟩ = some (.int .i64 kind) := by rw [blk_cell hd5]; rfl
  have y1 : w5.cell? ⟨w1.heap.size, 1, none⟩ = some (.int .u32 ses) := by rw [blk_cell hd5]; rfl
  have y2 : w5.cell? ⟨w1.heap.size, 2, none⟩ = some (.int .u32 ep) := by rw [blk_cell hd5]; rfl
  have y3 : w5.cell? ⟨w1.heap.size, 3, none⟩ = some (.int .u32 num) := by rw [blk_cell hd5]; rfl
  have y4 : w5.cell? ⟨w1.heap.size, 4, none⟩ = some (.int .u32 ack) := by rw [blk_cell hd5]; rfl
  have y5 : w5.cell? ⟨w1.heap.size, 5, none⟩ = some (.int .u32 mask) := by rw [blk_cell hd5]; rfl
  have y6 : w5.cell? ⟨w1.heap.size, 6, none⟩ = some (.slice A3 q.length c3) := by rw [blk_cell hd5]; rfl
  clear h5 hd5
  generalize hen : encL ⟨kind, ses, ep, num, ack, mask, q⟩ tag = en at *
  generalize her : errE ⟨kind, ses, ep, num, ack, mask, q⟩ = er at *
  have HEN := Lib.hid hen
  have HER := Lib.hid her
  clear hen her
  go_wp2_with fail
  refine (refencode_any w5 ⟨kind, ses, ep, num, ack, mask, q⟩ HG.out A3 c3 R35.out tag htag).mono ?_
  rintro e w6 ⟨r6, rfl, h6⟩
  rw [HEN.out] at h6
  rw [HER.out]
  have K6 := Lib.hid (K5.out.then h6.keeps)
  have HB6 := Lib.hid (h6.keeps.heap HB5.out (fun h => h))
  have HD6 := Lib.hid (h6.keeps.heap HD5.out (fun h => h))
  obtain ⟨A5, c5, rfl, _, hR5⟩ := R5.out.rd
  obtain ⟨A6, c6, rfl, _, hR6⟩ := h6.row.rd
  have R5' := Lib.hid (h6.keeps.rdNo hR5)
  have R6 := Lib.hid hR6
  have RQ := Lib.hid (K6.out.rdNo RP.out)
  have R36 := Lib.hid (h6.keeps.rdNo R35.out)
  clear h6 y0 y1 y2 y3 y4 y5 y6 hR5 hR6
  have HM4 := Lib.hid (fun W (h : Keeps No w6 W) => may_any W ⟨kind, ses, ep, num, ack, mask, q⟩ HG.out A c ((HT.out.keptNo K6.out).keptNo h))
  have HM5 := Lib.hid (fun W => refmay_any W ⟨kind, ses, ep, num, ack, mask, q⟩ A3 c3)
  have HS6 := Lib.hid (fun W (h : Keeps No w6 W) => signed_any W ⟨kind, ses, ep, num, ack, mask, q⟩ HG.out A c (h.rdNo RQ.out) ((HT.out.keptNo K6.out).keptNo h))
  have HS7 := Lib.hid (fun W (h : Keeps No w6 W) => refsigned_any W ⟨kind, ses, ep, num, ack, mask, q⟩ HG.out A3 c3 (h.rdNo R36.out))
  have HT8 := Lib.hid (fun W (h : Keeps No w6 W) => tells_any W ((HT.out.keptNo K6.out).keptNo h))
  simp only [Frm.cs, Frm.rs] at HM4 HM5 HS6 HS7
  generalize sigL ⟨kind, ses, ep, num, ack, mask, q⟩ = sl at *
  generalize mayB ⟨kind, ses, ep, num, ack, mask, q⟩ = mb at *
  have af0 : ∀ W, Keeps No w6 W → W.cell? ⟨w.heap.size, 0, none⟩ = some (.int .u8 kind) := fun W k => by rw [blk_cell (k.heap HB6.out (fun h => h))]; rfl
  have af1 : ∀ W, Keeps No w6 W → W.cell? ⟨w.heap.size, 1, none⟩ = some (.int .u32 ses) := fun W k => by rw [blk_cell (k.heap HB6.out (fun h => h))]; rfl
  have af2 : ∀ W, Keeps No w6 W → W.cell? ⟨w.heap.size, 2, none⟩ = some (.int .u32 ep) := fun W k => by rw [blk_cell (k.heap HB6.out (fun h => h))]; rfl
  have af3 : ∀ W, Keeps No w6 W → W.cell? ⟨w.heap.size, 3, none⟩ = some (.int .u32 num) := fun W k => by rw [blk_cell (k.heap HB6.out (fun h => h))]; rfl
  have af4 : ∀ W, Keeps No w6 W → W.cell? ⟨w.heap.size, 4, none⟩ = some (.int .u32 ack) := fun W k => by rw [blk_cell (k.heap HB6.out (fun h => h))]; rfl
  have af5 : ∀ W, Keeps No w6 W → W.cell? ⟨w.heap.size, 5, none⟩ = some (.int .u32 mask) := fun W k => by rw [blk_cell (k.heap HB6.out (fun h => h))]; rfl
  have af6 : ∀ W, Keeps No w6 W → W.cell? ⟨w.heap.size, 6, none⟩ = some (.slice A q.length c) := fun W k => by rw [blk_cell (k.heap HB6.out (fun h => h))]; rfl
  have ar0 : ∀ W, Keeps No w6 W → W.cell? ⟨w1.heap.size, 0, none⟩ = some (.int .i64 kind) := fun W k => by rw [blk_cell (k.heap HD6.out (fun h => h))]; rfl
  have ar1 : ∀ W, Keeps No w6 W → W.cell? ⟨w1.heap.size, 1, none⟩ = some (.int .u32 ses) := fun W k => by rw [blk_cell (k.heap HD6.out (fun h => h))]; rfl
  have ar2 : ∀ W, Keeps No w6 W → W.cell? ⟨w1.heap.size, 2, none⟩ = some (.int .u32 ep) := fun W k => by rw [blk_cell (k.heap HD6.out (fun h => h))]; rfl
  have ar3 : ∀ W, Keeps No w6 W → W.cell? ⟨w1.heap.size, 3, none⟩ = some (.int .u32 num) := fun W k => by rw [blk_cell (k.heap HD6.out (fun h => h))]; rfl
  have ar4 : ∀ W, Keeps No w6 W → W.cell? ⟨w1.heap.size, 4, none⟩ = some (.int .u32 ack) := fun W k => by rw [blk_cell (k.heap HD6.out (fun h => h))]; rfl
  have ar5 : ∀ W, Keeps No w6 W → W.cell? ⟨w1.heap.size, 5, none⟩ = some (.int .u32 mask) := fun W k => by rw [blk_cell (k.heap HD6.out (fun h => h))]; rfl
  have ar6 : ∀ W, Keeps No w6 W → W.cell? ⟨w1.heap.size, 6, none⟩ = some (.slice A3 q.length c3) := fun W k => by rw [blk_cell (k.heap HD6.out (fun h => h))]; rfl
  have cq : ∀ W, Keeps No w6 W → (convert 22 9 (.slice A q.length c)).run Tryd.prog W = .ok (.string ⟨q.toArray⟩) W := fun W k => rd_string Tryd.underlying22 Tryd.underlying5 Tryd.underlying9 (k.rdNo RQ.out) c
  have cr : ∀ W, Keeps No w6 W → (convert 22 9 (.slice A3 q.length c3)).run Tryd.prog W = .ok (.string ⟨q.toArray⟩) W := fun W k => rd_string Tryd.underlying22 Tryd.underlying5 Tryd.underlying9 (k.rdNo R36.out) c3
  have c5v : ∀ W, Keeps No w6 W → (convert 22 9 (.slice A5 en.length c5)).run Tryd.prog W = .ok (.string ⟨en.toArray⟩) W := fun W k => rd_string Tryd.underlying22 Tryd.underlying5 Tryd.underlying9 (k.rdNo R5'.out) c5
  have c6v : ∀ W, Keeps No w6 W → (convert 22 9 (.slice A6 en.length c6)).run Tryd.prog W = .ok (.string ⟨en.toArray⟩) W := fun W k => rd_string Tryd.underlying22 Tryd.underlying5 Tryd.underlying9 (k.rdNo R6.out) c6
  have hk6 := Keeps.refl No w6
  go_wp2_with fail
  have hk6 := (Keeps.refl No w6).drew
  have hkl := (Keeps.refl No w6).drew
  refine wp_region_held_drew (S := fun W => Keeps No w6 W ∧ Keeps No w6 W) (by kernel_rfl) ⟨hk6, hkl⟩ (fun _ => ?_)
  refine wpAnyH_got (i := 0) (d := 36) (v := ?_) rfl rfl (by kernel_rfl) (by kernel_rfl) (by kernel_rfl) (fun _ _ _ h => h) (Or.inl ⟨by rfl, ?_⟩) ⟨hk6, hkl⟩ ?_
  rotate_left
  focus (intro W hSw; go_simp; try (with_reducible rfl))
  try simp only [Act.put, List.setIfInBounds_toArray, List.set_cons_zero, List.set_cons_succ]
  refine wpAnyH_got (i := 2) (d := 38) (v := ?_) rfl rfl (by kernel_rfl) (by kernel_rfl) (by kernel_rfl) (fun _ _ _ h => h) (Or.inl ⟨by rfl, ?_⟩) ⟨hk6, hkl⟩ ?_
  rotate_left
  focus (intro W hSw; go_simp; try (with_reducible rfl))
  try simp only [Act.put, List.setIfInBounds_toArray, List.set_cons_zero, List.set_cons_succ]
  refine wpAnyH_only (i := 1) (by kernel_rfl) rfl (fun K hK => ?_)
  go_simp
  refine (HM4.out _ hk6).mono ?_
  rintro e wa ⟨rfl, hkx⟩
  try (go_wp2_with fail)
  refine hK.out _ _ ⟨⟨hk6.then hkx, hkl.then hkx⟩, ?_⟩
  clear hK K
  refine wpAnyH_strong (S' := fun W => Keeps No w6 W ∧ Keeps No wa W) (fun W k => ⟨k.1, hkl.then (hkx.then k.2)⟩) _ _ _ _ ?_
  replace hk6 := hk6.then hkx
  replace hkl := Keeps.refl No wa
  clear hkx
  try simp only [Act.put, List.setIfInBounds_toArray, List.set_cons_zero, List.set_cons_succ]
  refine wpAnyH_only (i := 3) (by kernel_rfl) rfl (fun K hK => ?_)
  go_simp
  refine (HM5.out _).mono ?_
  rintro e wb ⟨rfl, hkx⟩
  try (go_wp2_with fail)
  refine hK.out _ _ ⟨⟨hk6.then hkx, hkl.then hkx⟩, ?_⟩
  clear hK K
  refine wpAnyH_strong (S' := fun W => Keeps No w6 W ∧ Keeps No wb W) (fun W k => ⟨k.1, hkl.then (hkx.then k.2)⟩) _ _ _ _ ?_
  replace hk6 := hk6.then hkx
  replace hkl := Keeps.refl No wb
  clear hkx
  try simp only [Act.put, List.setIfInBounds_toArray, List.set_cons_zero, List.set_cons_succ]
  refine wpAnyH_got (i := 4) (d := 40) (v := ?_) rfl rfl (by kernel_rfl) (by kernel_rfl) (by kernel_rfl) (fun _ _ _ h => h) (Or.inl ⟨by rfl, ?_⟩) ⟨hk6, hkl⟩ ?_
  rotate_left
  focus (intro W hSw; go_simp; try (with_reducible rfl))
  try simp only [Act.put, List.setIfInBounds_toArray, List.set_cons_zero, List.set_cons_succ]
  refine wpAnyH_got (i := 5) (d := 41) (v := ?_) rfl rfl (by kernel_rfl) (by kernel_rfl) (by kernel_rfl) (fun _ _ _ h => h) (Or.inl ⟨by rfl, ?_⟩) ⟨hk6, hkl⟩ ?_
  rotate_left
  focus (intro W hSw; go_simp; try (with_reducible rfl))
  try simp only [Act.put, List.setIfInBounds_toArray, List.set_cons_zero, List.set_cons_succ]
  refine wpAnyH_got (i := 6) (d := 42) (v := ?_) rfl rfl (by kernel_rfl) (by kernel_rfl) (by kernel_rfl) (fun _ _ _ h => h) (Or.inl ⟨by rfl, ?_⟩) ⟨hk6, hkl⟩ ?_
  rotate_left
  focus (intro W hSw; go_simp; try (with_reducible rfl))
  try simp only [Act.put, List.setIfInBounds_toArray, List.set_cons_zero, List.set_cons_succ]
  refine wpAnyH_got (i := 9) (d := 45) (v := ?_) rfl rfl (by kernel_rfl) (by kernel_rfl) (by kernel_rfl) (fun _ _ _ h => h) (Or.inl ⟨by rfl, ?_⟩) ⟨hk6, hkl⟩ ?_
  rotate_left
  focus (intro W hSw; go_simp; try (with_reducible rfl))
  try simp only [Act.put, List.setIfInBounds_toArray, List.set_cons_zero, List.set_cons_succ]
  refine wpAnyH_only (i := 7) (by kernel_rfl) rfl (fun K hK => ?_)
  go_simp
  refine (HS6.out _ hk6).mono ?_
  rintro e wc ⟨r, rfl, hx⟩
  obtain ⟨Ax, cx, rfl, _, hRx⟩ := hx.row.rd
  have hkx := hx.keeps
  have HRx := Lib.hid hRx
  have hcv : ∀ W, Keeps No wc W → (convert 22 9 (.slice Ax sl.length cx)).run Tryd.prog W = .ok (.string ⟨sl.toArray⟩) W := fun W k => rd_string Tryd.underlying22 Tryd.underlying5 Tryd.underlying9 (k.rdNo HRx.out) cx
  clear hx hRx
  try (go_wp2_with fail)
  refine hK.out _ _ ⟨⟨hk6.then hkx, hkl.then hkx⟩, ?_⟩
  clear hK K
  refine wpAnyH_strong (S' := fun W => Keeps No w6 W ∧ Keeps No wc W) (fun W k => ⟨k.1, hkl.then (hkx.then k.2)⟩) _ _ _ _ ?_
  replace hk6 := hk6.then hkx
  replace hkl := Keeps.refl No wc
  clear hkx
  try simp only [Act.put, List.setIfInBounds_toArray, List.set_cons_zero, List.set_cons_succ]
  refine wpAnyH_got (i := 8) (d := 44) (v := ?_) rfl rfl (by kernel_rfl) (by kernel_rfl) (by kernel_rfl) (fun _ _ _ h => h) (Or.inl ⟨by rfl, ?_⟩) ⟨hk6, hkl⟩ ?_
  rotate_left
  focus (intro W hSw; go_simp; try (with_reducible rfl))
  try simp only [Act.put, List.setIfInBounds_toArray, List.set_cons_zero, List.set_cons_succ]
  refine wpAnyH_only (i := 10) (by kernel_rfl) rfl (fun K hK => ?_)
  go_simp
  refine (HS7.out _ hk6).mono ?_
  rintro e wd ⟨r, rfl, hx⟩
  obtain ⟨Ax, cx, rfl, _, hRx⟩ := hx.row.rd
  have hkx := hx.keeps
  have HRx := Lib.hid hRx
  have hcv : ∀ W, Keeps No wd W → (convert 22 9 (.slice Ax sl.length cx)).run Tryd.prog W = .ok (.string ⟨sl.toArray⟩) W := fun W k => rd_string Tryd.underlying22 Tryd.underlying5 Tryd.underlying9 (k.rdNo HRx.out) cx
  clear hx hRx
  try (go_wp2_with fail)
  refine hK.out _ _ ⟨⟨hk6.then hkx, hkl.then hkx⟩, ?_⟩
  clear hK K
  refine wpAnyH_strong (S' := fun W => Keeps No w6 W ∧ Keeps No wd W) (fun W k => ⟨k.1, hkl.then (hkx.then k.2)⟩) _ _ _ _ ?_
  replace hk6 := hk6.then hkx
  replace hkl := Keeps.refl No wd
  clear hkx
  try simp only [Act.put, List.setIfInBounds_toArray, List.set_cons_zero, List.set_cons_succ]
  refine wpAnyH_got (i := 11) (d := 47) (v := ?_) rfl rfl (by kernel_rfl) (by kernel_rfl) (by kernel_rfl) (fun _ _ _ h => h) (Or.inl ⟨by rfl, ?_⟩) ⟨hk6, hkl⟩ ?_
  rotate_left
  focus (intro W hSw; go_simp; try (with_reducible rfl))
  try simp only [Act.put, List.setIfInBounds_toArray, List.set_cons_zero, List.set_cons_succ]
  refine wpAnyH_got (i := 12) (d := 48) (v := ?_) rfl rfl (by kernel_rfl) (by kernel_rfl) (by kernel_rfl) (fun _ _ _ h => h) (Or.inl ⟨by rfl, ?_⟩) ⟨hk6, hkl⟩ ?_
  rotate_left
  focus (intro W hSw; go_simp; try (with_reducible rfl))
  try simp only [Act.put, List.setIfInBounds_toArray, List.set_cons_zero, List.set_cons_succ]
  refine wpAnyH_got (i := 13) (d := 49) (v := ?_) rfl rfl (by kernel_rfl) (by kernel_rfl) (by kernel_rfl) (fun _ _ _ h => h) (Or.inl ⟨by rfl, ?_⟩) ⟨hk6, hkl⟩ ?_
  rotate_left
  focus (intro W hSw; go_simp; try (with_reducible rfl))
  try simp only [Act.put, List.setIfInBounds_toArray, List.set_cons_zero, List.set_cons_succ]
  refine wpAnyH_got (i := 14) (d := 50) (v := ?_) rfl rfl (by kernel_rfl) (by kernel_rfl) (by kernel_rfl) (fun _ _ _ h => h) (Or.inl ⟨by rfl, ?_⟩) ⟨hk6, hkl⟩ ?_
  rotate_left
  focus (intro W hSw; go_simp; try (with_reducible rfl))
  try simp only [Act.put, List.setIfInBounds_toArray, List.set_cons_zero, List.set_cons_succ]
  refine wpAnyH_got (i := 15) (d := 51) (v := ?_) rfl rfl (by kernel_rfl) (by kernel_rfl) (by kernel_rfl) (fun _ _ _ h => h) (Or.inl ⟨by rfl, ?_⟩) ⟨hk6, hkl⟩ ?_
  rotate_left
  focus (intro W hSw; go_simp; try (with_reducible rfl))
  try simp only [Act.put, List.setIfInBounds_toArray, List.set_cons_zero, List.set_cons_succ]
  refine wpAnyH_got (i := 16) (d := 52) (v := ?_) rfl rfl (by kernel_rfl) (by kernel_rfl) (by kernel_rfl) (fun _ _ _ h => h) (Or.inl ⟨by rfl, ?_⟩) ⟨hk6, hkl⟩ ?_
  rotate_left
  focus (intro W hSw; go_simp; try (with_reducible rfl))
  try simp only [Act.put, List.setIfInBounds_toArray, List.set_cons_zero, List.set_cons_succ]
  refine wpAnyH_got (i := 17) (d := 53) (v := ?_) rfl rfl (by kernel_rfl) (by kernel_rfl) (by kernel_rfl) (fun _ _ _ h => h) (Or.inl ⟨by rfl, ?_⟩) ⟨hk6, hkl⟩ ?_
  rotate_left
  focus (intro W hSw; go_simp; try (with_reducible rfl))
  try simp only [Act.put, List.setIfInBounds_toArray, List.set_cons_zero, List.set_cons_succ]
  refine wpAnyH_got (i := 18) (d := 54) (v := ?_) rfl rfl (by kernel_rfl) (by kernel_rfl) (by kernel_rfl) (fun _ _ _ h => h) (Or.inl ⟨by rfl, ?_⟩) ⟨hk6, hkl⟩ ?_
  rotate_left
  focus (intro W hSw; go_simp; try (with_reducible rfl))
  try simp only [Act.put, List.setIfInBounds_toArray, List.set_cons_zero, List.set_cons_succ]
  refine wpAnyH_got (i := 19) (d := 55) (v := ?_) rfl rfl (by kernel_rfl) (by kernel_rfl) (by kernel_rfl) (fun _ _ _ h => h) (Or.inl ⟨by rfl, ?_⟩) ⟨hk6, hkl⟩ ?_
  rotate_left
  focus (intro W hSw; go_simp; try (with_reducible rfl))
  try simp only [Act.put, List.setIfInBounds_toArray, List.set_cons_zero, List.set_cons_succ]
  refine wpAnyH_got (i := 20) (d := 56) (v := ?_) rfl rfl (by kernel_rfl) (by kernel_rfl) (by kernel_rfl) (fun _ _ _ h => h) (Or.inl ⟨by rfl, ?_⟩) ⟨hk6, hkl⟩ ?_
  rotate_left
  focus (intro W hSw; go_simp; try (with_reducible rfl))
  try simp only [Act.put, List.setIfInBounds_toArray, List.set_cons_zero, List.set_cons_succ]
  refine wpAnyH_got (i := 21) (d := 57) (v := ?_) rfl rfl (by kernel_rfl) (by kernel_rfl) (by kernel_rfl) (fun _ _ _ h => h) (Or.inl ⟨by rfl, ?_⟩) ⟨hk6, hkl⟩ ?_
  rotate_left
  focus (intro W hSw; go_simp; try (with_reducible rfl))
  try simp only [Act.put, List.setIfInBounds_toArray, List.set_cons_zero, List.set_cons_succ]
  refine wpAnyH_got (i := 22) (d := 58) (v := ?_) rfl rfl (by kernel_rfl) (by kernel_rfl) (by kernel_rfl) (fun _ _ _ h => h) (Or.inl ⟨by rfl, ?_⟩) ⟨hk6, hkl⟩ ?_
  rotate_left
  focus (intro W hSw; go_simp; try (with_reducible rfl))
  try simp only [Act.put, List.setIfInBounds_toArray, List.set_cons_zero, List.set_cons_succ]
  refine wpAnyH_got (i := 23) (d := 59) (v := ?_) rfl rfl (by kernel_rfl) (by kernel_rfl) (by kernel_rfl) (fun _ _ _ h => h) (Or.inl ⟨by rfl, ?_⟩) ⟨hk6, hkl⟩ ?_
  rotate_left
  focus (intro W hSw; go_simp; try (with_reducible rfl))
  try simp only [Act.put, List.setIfInBounds_toArray, List.set_cons_zero, List.set_cons_succ]
  refine wpAnyH_got (i := 24) (d := 60) (v := ?_) rfl rfl (by kernel_rfl) (by kernel_rfl) (by kernel_rfl) (fun _ _ _ h => h) (Or.inl ⟨by rfl, ?_⟩) ⟨hk6, hkl⟩ ?_
  rotate_left
  focus (intro W hSw; go_simp; try (with_reducible rfl))
  try simp only [Act.put, List.setIfInBounds_toArray, List.set_cons_zero, List.set_cons_succ]
  refine wpAnyH_got (i := 25) (d := 61) (v := ?_) rfl rfl (by kernel_rfl) (by kernel_rfl) (by kernel_rfl) (fun _ _ _ h => h) (Or.inl ⟨by rfl, ?_⟩) ⟨hk6, hkl⟩ ?_
  rotate_left
  focus (intro W hSw; go_simp; try (with_reducible rfl))
  try simp only [Act.put, List.setIfInBounds_toArray, List.set_cons_zero, List.set_cons_succ]
  refine wpAnyH_got (i := 26) (d := 62) (v := ?_) rfl rfl (by kernel_rfl) (by kernel_rfl) (by kernel_rfl) (fun _ _ _ h => h) (Or.inl ⟨by rfl, ?_⟩) ⟨hk6, hkl⟩ ?_
  rotate_left
  focus (intro W hSw; go_simp; try (with_reducible rfl))
  try simp only [Act.put, List.setIfInBounds_toArray, List.set_cons_zero, List.set_cons_succ]
  refine wpAnyH_got (i := 27) (d := 63) (v := ?_) rfl rfl (by kernel_rfl) (by kernel_rfl) (by kernel_rfl) (fun _ _ _ h => h) (Or.inl ⟨by rfl, ?_⟩) ⟨hk6, hkl⟩ ?_
  rotate_left
  focus (intro W hSw; go_simp; try (with_reducible rfl))
  try simp only [Act.put, List.setIfInBounds_toArray, List.set_cons_zero, List.set_cons_succ]
  refine wpAnyH_got (i := 28) (d := 64) (v := ?_) rfl rfl (by kernel_rfl) (by kernel_rfl) (by kernel_rfl) (fun _ _ _ h => h) (Or.inl ⟨by rfl, ?_⟩) ⟨hk6, hkl⟩ ?_
  rotate_left
  focus (intro W hSw; go_simp; try (with_reducible rfl))
  try simp only [Act.put, List.setIfInBounds_toArray, List.set_cons_zero, List.set_cons_succ]
  refine wpAnyH_got (i := 29) (d := 65) (v := ?_) rfl rfl (by kernel_rfl) (by kernel_rfl) (by kernel_rfl) (fun _ _ _ h => h) (Or.inl ⟨by rfl, ?_⟩) ⟨hk6, hkl⟩ ?_
  rotate_left
  focus (intro W hSw; go_simp; try (with_reducible rfl))
  try simp only [Act.put, List.setIfInBounds_toArray, List.set_cons_zero, List.set_cons_succ]
  refine wpAnyH_got (i := 30) (d := 66) (v := ?_) rfl rfl (by kernel_rfl) (by kernel_rfl) (by kernel_rfl) (fun _ _ _ h => h) (Or.inl ⟨by rfl, ?_⟩) ⟨hk6, hkl⟩ ?_
  rotate_left
  focus (intro W hSw; go_simp; try (with_reducible rfl))
  try simp only [Act.put, List.setIfInBounds_toArray, List.set_cons_zero, List.set_cons_succ]
  refine wpAnyH_got (i := 31) (d := 67) (v := ?_) rfl rfl (by kernel_rfl) (by kernel_rfl) (by kernel_rfl) (fun _ _ _ h => h) (Or.inl ⟨by rfl, ?_⟩) ⟨hk6, hkl⟩ ?_
  rotate_left
  focus (intro W hSw; go_simp; try (with_reducible rfl))
  try simp only [Act.put, List.setIfInBounds_toArray, List.set_cons_zero, List.set_cons_succ]
  refine wpAnyH_got (i := 32) (d := 68) (v := ?_) rfl rfl (by kernel_rfl) (by kernel_rfl) (by kernel_rfl) (fun _ _ _ h => h) (Or.inl ⟨by rfl, ?_⟩) ⟨hk6, hkl⟩ ?_
  rotate_left
  focus (intro W hSw; go_simp; try (with_reducible rfl))
  try simp only [Act.put, List.setIfInBounds_toArray, List.set_cons_zero, List.set_cons_succ]
  refine wpAnyH_got (i := 33) (d := 69) (v := ?_) rfl rfl (by kernel_rfl) (by kernel_rfl) (by kernel_rfl) (fun _ _ _ h => h) (Or.inl ⟨by rfl, ?_⟩) ⟨hk6, hkl⟩ ?_
  rotate_left
  focus (intro W hSw; go_simp; try (with_reducible rfl))
  try simp only [Act.put, List.setIfInBounds_toArray, List.set_cons_zero, List.set_cons_succ]
  refine wpAnyH_got (i := 34) (d := 70) (v := ?_) rfl rfl (by kernel_rfl) (by kernel_rfl) (by kernel_rfl) (fun _ _ _ h => h) (Or.inl ⟨by rfl, ?_⟩) ⟨hk6, hkl⟩ ?_
  rotate_left
  focus (intro W hSw; go_simp; try (with_reducible rfl))
  try simp only [Act.put, List.setIfInBounds_toArray, List.set_cons_zero, List.set_cons_succ]
  refine wpAnyH_got (i := 35) (d := 71) (v := ?_) rfl rfl (by kernel_rfl) (by kernel_rfl) (by kernel_rfl) (fun _ _ _ h => h) (Or.inl ⟨by rfl, ?_⟩) ⟨hk6, hkl⟩ ?_
  rotate_left
  focus (intro W hSw; go_simp; try (with_reducible rfl))
  try simp only [Act.put, List.setIfInBounds_toArray, List.set_cons_zero, List.set_cons_succ]
  refine wpAnyH_only (i := 36) (by kernel_rfl) rfl (fun K hK => ?_)
  go_simp
  refine (HT8.out _ hk6).mono ?_
  rintro e we ⟨rfl, hkx⟩
  try (go_wp2_with fail)
  refine hK.out _ _ ⟨⟨hk6.then hkx, hkl.then hkx⟩, ?_⟩
  clear hK K
  refine wpAnyH_strong (S' := fun W => Keeps No w6 W ∧ Keeps No we W) (fun W k => ⟨k.1, hkl.then (hkx.then k.2)⟩) _ _ _ _ ?_
  replace hk6 := hk6.then hkx
  replace hkl := Keeps.refl No we
  clear hkx
  try simp only [Act.put, List.setIfInBounds_toArray, List.set_cons_zero, List.set_cons_succ]
  refine wpAnyH_got (i := 37) (d := 73) (v := ?_) rfl rfl (by kernel_rfl) (by kernel_rfl) (by kernel_rfl) (fun _ _ _ h => h) (Or.inl ⟨by rfl, ?_⟩) ⟨hk6, hkl⟩ ?_
  rotate_left
  focus (intro W hSw; go_simp; try (with_reducible rfl))
  try simp only [Act.put, List.setIfInBounds_toArray, List.set_cons_zero, List.set_cons_succ]
  refine wpAnyH_got (i := 38) (d := 4) (v := ?_) rfl rfl (by kernel_rfl) (by kernel_rfl) (by kernel_rfl) (fun _ _ _ h => h) (Or.inl ⟨by rfl, ?_⟩) ⟨hk6, hkl⟩ ?_
  rotate_left
  focus (intro W hSw; go_simp; try (with_reducible rfl))
  try simp only [Act.put, List.setIfInBounds_toArray, List.set_cons_zero, List.set_cons_succ]
  refine wpAnyH_done (by kernel_rfl) ?_ _
  have KE := Lib.hid (K6.out.then hk6)
  go_wp2
  go_ret
  exact ⟨rfl, KE.out⟩
theorem frameLays_walk' (w : World) (f : Frm) (hf : f.Ok) (A : Option Addr) (c : Nat) (hR : Rd w A f.pl.length f.pl) (hc : f.pl.length ≤ c) (tag : Int) (h0 : 0 ≤ tag) (h1 : tag < 18446744073709551616) (hTab : Tabb w) (hT : MayT w) :
    Calls Tryd.prog 9 #[.agg (f.cs (.slice A f.pl.length c)), .int .u64 tag] w fun e w' => e = .returned (.bool true) ∧ Keeps No w w' := by
  have h := frameLays_walk w f hf A c hR hc tag.toNat (by omega) hTab hT
  rwa [Int.toNat_of_nonneg h0] at h
end Go.Proofs.YtieipnnpkngegaaDoor
