/- The walk of the law FrameReads. -/
import Derived.Test.YtieipnnpkngegaaDoorDd
import Derived.Test.YtieipnnpkngegaaDoorFt
namespace Go.Proofs.YtieipnnpkngegaaDoor
open Go.RowKit Go.Proofs.YtieipnnpkngegaaDoorW.PrintWords

theorem xorF (b : UInt8) : Value.int .u8 (bits .xor .u8 (b.toNat : Int) 255) = B8 (b ^^^ 255) := by
  have h := u8_xor_nat b.toNat 255 b.toNat_lt (by decide)
  rw [B8, UInt8.toNat_xor]
  exact congrArg (Value.int .u8) h
theorem natBE_sub (l : List UInt8) (m : Nat) (h : l.length ≤ m) : natBE l < 256 ^ m := Nat.lt_of_lt_of_le (natBE_lt l) (Nat.pow_le_pow_right (by omega) h)
theorem frmOf_ok (l : List UInt8) : (frmOf l).Ok :=
  ⟨natBE_sub _ 1 (by simp; omega), natBE_32 l 1, natBE_32 l 5, natBE_32 l 9, natBE_32 l 13, natBE_32 l 17⟩
theorem zf_ok : zf.Ok := ⟨by decide, by decide, by decide, by decide, by decide, by decide⟩
theorem decF_ok (l : List UInt8) : (decF l).Ok := by
  unfold decF
  split
  · exact frmOf_ok l
  · exact zf_ok
set_option linter.unusedSimpArgs false in
set_option maxRecDepth 100000 in
set_option maxHeartbeats 12800000 in
theorem frameReads_walk (w : World) (A : Option Addr) (n c : Nat) (b : List UInt8) (hRb : Rd w A n b) (hc : n ≤ c) (hTab : Tabb w) (hT : MayT w) :
    Calls Tryd.prog 11 #[.slice A n c] w fun e w' => e = .returned (.bool true) ∧ Keeps No w w' := by
  have hn : n ≤ 9223372036854775807 := hRb.2.1
  have HT := Lib.hid hT
  have HTB := Lib.hid hTab
  have hmin := min_num n 700 700 rfl
  have hq7 : min n 700 ≤ 700 := by omega
  have hqc : min n 700 ≤ c := by omega
  have hRt := hRb.take (min n 700) (by omega)
  have hml := hRt.len
  generalize b.take (min n 700) = m at *
  generalize min n 700 = q at *
  subst hml
  have HRT := Lib.hid hRt
  have h0w := HT.out.lt
  clear hT hTab hRb hRt
  go_enter Tryd.func11, Tryd.ntmps11
  go_wp2_with (at_builtin; go_loud (refine print_append_row_of (w0 := w) B8 0 w.heap.size rfl (.const (.slice none 0 0)) (.tmp 14) 22 5 (.int .u8 0) 1 rfl Tryd.underlying22 Tryd.info5 rfl (by decide) B8_one (.slice none 0 0) [] m A m.length c rfl rfl (Ow.nil _ _) (by exact HRT.out) (Below.refl _ _) (Nat.le_refl _) (by simp; omega) ?_; intro v1 w1 hown hB hgr hat; have K1 := Lib.hid ((Keeps.of_grown hgr).mono (S1 := No) (fun k h => by cases h)); obtain ⟨A1, c1, hv1, hc1, hR1⟩ := (show Ow w1 w.heap.size v1 m from hown).rd; subst hv1; have HO1 := Lib.hid (show Ow w1 w.heap.size (.slice A1 m.length c1) m from hown); have HR1 := Lib.hid hR1; clear hown hB hgr hat hR1))
  have hs1 := K1.out.size
  have HREF := Lib.hid (show Calls Tryd.prog 52 #[.slice A1 m.length c1] w1 (fun x W' => ∃ r, x = .returned (.tuple #[.agg ((decF m).rs r), .int .u64 (decT m : Nat), .int .i64 (decE m)]) ∧ CPost w1 (decF m).pl W' r) from refdecode_any w1 A1 m.length c1 m HR1.out hc1 (by omega))
  have HDEC := Lib.hid (show ∀ W, Keeps No w1 W → Calls Tryd.prog 53 #[.slice A1 m.length c1] W (fun x W' => ∃ r, x = .returned (.tuple #[.agg ((decF m).cs r), .int .u64 (decT m : Nat), .int .i64 (decE m)]) ∧ CPost W (decF m).pl W' r) from fun W k => decode_any W A1 m.length c1 m (k.rdNo HR1.out) hc1 (by omega) (HT.out.keptNo (K1.out.then k)) (HTB.out.keptNo (K1.out.then k)))
  have HF0 := Lib.hid (show decE m ≠ 0 → (decF m).pl = [] from fun h => by rw [decF_bad h]; rfl)
  have HFO := Lib.hid (decF_ok m)
  generalize decF m = F at *
  generalize decT m = T at *
  generalize decE m = E at *
  obtain ⟨kind, ses, ep, num, ack, mask, pl⟩ := F
  simp only [Frm.rs, Frm.cs] at HREF HDEC HF0
  refine HREF.out.mono ?_
  rintro e w2 ⟨r, rfl, h2⟩
  obtain ⟨A2, c2, rfl, _, hR2⟩ := h2.row.rd
  have H2 := Lib.hid h2
  have HR2 := Lib.hid hR2
  have hs2 := h2.keeps.size
  clear h2 hR2
  have ha3 := (Keeps.refl No w2).alloc (.cells #[.int .i64 kind, .int .u32 ses, .int .u32 ep, .int .u32 num, .int .u32 ack, .int .u32 mask, .slice A2 pl.length c2] 70)
  have hb3 := heap_alloc_new w2 (.cells #[.int .i64 kind, .int .u32 ses, .int .u32 ep, .int .u32 num, .int .u32 ack, .int .u32 mask, .slice A2 pl.length c2] 70)
  have hs3 : (w2.alloc (.cells #[.int .i64 kind, .int .u32 ses, .int .u32 ep, .int .u32 num, .int .u32 ack, .int .u32 mask, .slice A2 pl.length c2] 70)).heap.size = w2.heap.size + 1 := by simp
  have HA3 := Lib.hid ha3
  have HB3 := Lib.hid hb3
  clear ha3 hb3
  go_wp2_with fail
  generalize w2.alloc (.cells #[.int .i64 kind, .int .u32 ses, .int .u32 ep, .int .u32 num, .int .u32 ack, .int .u32 mask, .slice A2 pl.length c2] 70) = w3 at *
  refine (HDEC.out w3 (H2.out.keeps.then HA3.out)).mono ?_
  rintro e w4 ⟨r, rfl, h4⟩
  obtain ⟨A4, c4, rfl, _, hR4⟩ := h4.row.rd
  have H4 := Lib.hid h4
  have HR4 := Lib.hid hR4
  have hs4 := h4.keeps.size
  have HB4 := Lib.hid (h4.keeps.heap HB3.out (fun h => h))
  have HR24 := Lib.hid ((HA3.out.then h4.keeps).rdNo HR2.out)
  clear h4 hR4
  have ha5 := (Keeps.refl No w4).alloc (.cells #[.int .u8 kind, .int .u32 ses, .int .u32 ep, .int .u32 num, .int .u32 ack, .int .u32 mask, .slice A4 pl.length c4] 68)
  have hb5 := heap_alloc_new w4 (.cells #[.int .u8 kind, .int .u32 ses, .int .u32 ep, .int .u32 num, .int .u32 ack, .int .u32 mask, .slice A4 pl.length c4] 68)
  have hs5 : (w4.alloc (.cells #[.int .u8 kind, .int .u32 ses, .int .u32 ep, .int .u32 num, .int .u32 ack, .int .u32 mask, .slice A4 pl.length c4] 68)).heap.size = w4.heap.size + 1 := by simp
  have HA5 := Lib.hid ha5
  have HB5 := Lib.hid hb5
  clear ha5 hb5
  go_wp2
  generalize w4.alloc (.cells #[.int .u8 kind, .int .u32 ses, .int .u32 ep, .int .u32 num, .int .u32 ack, .int .u32 mask, .slice A4 pl.length c4] 68) = w5 at *
  have HW5 := Lib.hid (show Ow w5 w.heap.size (.slice A1 m.length c1) m from (((H2.out.keeps.then HA3.out).then H4.out.keeps).then HA5.out).owNo HO1.out)
  have KW5 := Lib.hid (K1.out.then (((H2.out.keeps.then HA3.out).then H4.out.keeps).then HA5.out))
  have HLT := Lib.hid (show ∀ ad, A1 = some ad → w.heap.size ≤ ad.block ∧ ad.block < w1.heap.size from fun ad h => ⟨own_base HO1.out ad.block (by rw [h]; rfl), own_lt HO1.out ad.block (by rw [h]; rfl)⟩)
  go_loopw [9] (fun i wr => ∃ (k : Nat) (l' : List UInt8), k ≤ m.length ∧ i = .int .i64 k ∧ l'.length = m.length ∧ wr.ownsRow w.heap.size 5 1 (.slice A1 m.length c1) m.length (encs B8 l') ∧ Keeps (fun x => ∃ ad, A1 = some ad ∧ x = ad.block) w5 wr) (fun i _ => m.length - (intOf i).toNat)
  case atStart => exact ⟨0, m, by omega, rfl, rfl, HW5.out, Keeps.refl _ _⟩
  case round =>
    obtain ⟨k, l', hk, rfl, hl', ho, hkr⟩ := hrel
    have HO := Lib.hid ho
    have HK := Lib.hid hkr
    have HL := Lib.hid hl'
    clear ho hkr hl'
    by_cases hkm : k < m.length
    · obtain ⟨g, cap, hv, _, _⟩ := HO.out.form (by omega)
      injection hv with hv1 hv2 hv3
      subst hv1 hv3
      have HOG := Lib.hid HO.out
      have hcl := (own_at_of (d := (0 : UInt8)) HOG.out (k : Int) (by omega) (by omega)).1
      have hcf := (own_at_of (d := (0 : UInt8)) HOG.out (k : Int) (by omega) (by omega)).2
      simp only [Int.toNat_natCast, rdOf, B8] at hcl hcf
      generalize l'.getD k 0 = b at *
      have hb := b.toNat_lt
      have HV := Lib.hid (xorF b)
      go_wp2
      go_roundw
      case rel =>
        refine ⟨k + 1, l'.set k (b ^^^ 255), by omega, by go_num, by rw [List.length_set]; exact HL.out, ?_, ?_⟩
        · rw [HV.out]
          have hs := (own_store_of HOG.out (k : Int) (b ^^^ 255)).1
          rw [Int.toNat_natCast] at hs
          exact hs
        · exact HK.out.setCell (p := ⟨g, k, none⟩) (.inl ⟨⟨g, 0, none⟩, rfl, rfl⟩) _
      case measure => simp [intOf]; omega
    · have hS : ∀ q, (∃ ad, A1 = some ad ∧ q = ad.block) → w.heap.size ≤ q ∧ q < w1.heap.size := fun q ⟨ad, h1, h2⟩ => h2 ▸ HLT.out ad h1
      have HB6 := Lib.hid (HK.out.heap (HA5.out.heap HB4.out (fun h => h)) (fun h => by have := hS _ h; omega))
      have HB7 := Lib.hid (HK.out.heap HB5.out (fun h => by have := hS _ h; omega))
      have HR6 := Lib.hid (HK.out.rd (HA5.out.rdNo HR24.out) (fun ad ha _ h => by have := hS _ h; have := own_base H2.out.row ad.block (by rw [ha]; rfl); omega))
      have HR7 := Lib.hid (HK.out.rd (HA5.out.rdNo HR4.out) (fun ad ha _ h => by have := hS _ h; have := own_base H4.out.row ad.block (by rw [ha]; rfl); omega))
      have KW := Lib.hid (show Keeps No w wr from KW5.out.trans HK.out (fun i hi => .inr (hS i hi).1))
      have HTW := Lib.hid (HT.out.keptNo KW.out)
      clear hS
      have HOF := Lib.hid (fun W => of_any W ⟨kind, ses, ep, num, ack, mask, pl⟩ HFO.out A4 pl.length c4)
      have HSM := Lib.hid (fun W (k : Keeps No wr W) => rsame_any W ⟨kind, ses, ep, num, ack, mask, pl⟩ A4 A2 c4 c2 (k.rdNo HR7.out) (k.rdNo HR6.out))
      have HTL := Lib.hid (fun W (k : Keeps No wr W) => tells_any W (HTW.out.keptNo k))
      simp only [Frm.rs, Frm.cs] at HOF HSM
      have a0 : ∀ W, Keeps No wr W → W.cell? ⟨w4.heap.size, 0, none⟩ = some (.int .u8 kind) := fun W k => by rw [blk_cell (k.heap HB7.out (fun h => h))]; rfl
      have r0 : ∀ W, Keeps No wr W → W.cell? ⟨w2.heap.size, 0, none⟩ = some (.int .i64 kind) := fun W k => by rw [blk_cell (k.heap HB6.out (fun h => h))]; rfl
      have a1 : ∀ W, Keeps No wr W → W.cell? ⟨w4.heap.size, 1, none⟩ = some (.int .u32 ses) := fun W k => by rw [blk_cell (k.heap HB7.out (fun h => h))]; rfl
      have r1 : ∀ W, Keeps No wr W → W.cell? ⟨w2.heap.size, 1, none⟩ = some (.int .u32 ses) := fun W k => by rw [blk_cell (k.heap HB6.out (fun h => h))]; rfl
      have a2 : ∀ W, Keeps No wr W → W.cell? ⟨w4.heap.size, 2, none⟩ = some (.int .u32 ep) := fun W k => by rw [blk_cell (k.heap HB7.out (fun h => h))]; rfl
      have r2 : ∀ W, Keeps No wr W → W.cell? ⟨w2.heap.size, 2, none⟩ = some (.int .u32 ep) := fun W k => by rw [blk_cell (k.heap HB6.out (fun h => h))]; rfl
      have a3 : ∀ W, Keeps No wr W → W.cell? ⟨w4.heap.size, 3, none⟩ = some (.int .u32 num) := fun W k => by rw [blk_cell (k.heap HB7.out (fun h => h))]; rfl
      have r3 : ∀ W, Keeps No wr W → W.cell? ⟨w2.heap.size, 3, none⟩ = some (.int .u32 num) := fun W k => by rw [blk_cell (k.heap HB6.out (fun h => h))]; rfl
      have a4 : ∀ W, Keeps No wr W → W.cell? ⟨w4.heap.size, 4, none⟩ = some (.int .u32 ack) := fun W k => by rw [blk_cell (k.heap HB7.out (fun h => h))]; rfl
      have r4 : ∀ W, Keeps No wr W → W.cell? ⟨w2.heap.size, 4, none⟩ = some (.int .u32 ack) := fun W k => by rw [blk_cell (k.heap HB6.out (fun h => h))]; rfl
      have a5 : ∀ W, Keeps No wr W → W.cell? ⟨w4.heap.size, 5, none⟩ = some (.int .u32 mask) := fun W k => by rw [blk_cell (k.heap HB7.out (fun h => h))]; rfl
      have r5 : ∀ W, Keeps No wr W → W.cell? ⟨w2.heap.size, 5, none⟩ = some (.int .u32 mask) := fun W k => by rw [blk_cell (k.heap HB6.out (fun h => h))]; rfl
      have a6 : ∀ W, Keeps No wr W → W.cell? ⟨w4.heap.size, 6, none⟩ = some (.slice A4 pl.length c4) := fun W k => by rw [blk_cell (k.heap HB7.out (fun h => h))]; rfl
      have r6 : ∀ W, Keeps No wr W → W.cell? ⟨w2.heap.size, 6, none⟩ = some (.slice A2 pl.length c2) := fun W k => by rw [blk_cell (k.heap HB6.out (fun h => h))]; rfl
      by_cases hE : E = 0
      · subst hE
        go_wp2_with fail
        have hk6 := (Keeps.refl No wr).drew
        have hkl := (Keeps.refl No wr).drew
        refine wp_region_held_drew (S := fun W => Keeps No wr W ∧ Keeps No wr W) (by kernel_rfl) ⟨hk6, hkl⟩ (fun _ => ?_)
        refine wpAnyH_got (fuel := 27) (i := 0) (d := 40) (v := ?_) rfl rfl (by kernel_rfl) (by kernel_rfl) (by kernel_rfl) (fun _ _ _ h => h) (Or.inl ⟨by rfl, ?_⟩) ⟨hk6, hkl⟩ ?_
        rotate_left
        focus (intro W hSw; go_simp; try (with_reducible rfl))
        try simp only [Act.put, List.setIfInBounds_toArray, List.set_cons_zero, List.set_cons_succ]
        refine wpAnyH_got (fuel := 26) (i := 2) (d := 42) (v := ?_) rfl rfl (by kernel_rfl) (by kernel_rfl) (by kernel_rfl) (fun _ _ _ h => h) (Or.inl ⟨by rfl, ?_⟩) ⟨hk6, hkl⟩ ?_
        rotate_left
        focus (intro W hSw; go_simp; try (with_reducible rfl))
        try simp only [Act.put, List.setIfInBounds_toArray, List.set_cons_zero, List.set_cons_succ]
        refine wpAnyH_only (fuel := 25) (i := 1) (by kernel_rfl) rfl (fun K hK => ?_)
        go_simp
        refine (HOF.out _).mono ?_
        rintro e wa ⟨rfl, hkx⟩
        try (go_wp2_with fail)
        refine hK.out _ _ ⟨⟨hk6.then hkx, hkl.then hkx⟩, ?_⟩
        clear hK K
        refine wpAnyH_strong (S' := fun W => Keeps No wr W ∧ Keeps No wa W) (fun W k => ⟨k.1, hkl.then (hkx.then k.2)⟩) _ _ _ _ ?_
        replace hk6 := hk6.then hkx
        replace hkl := Keeps.refl No wa
        clear hkx
        try simp only [Act.put, List.setIfInBounds_toArray, List.set_cons_zero, List.set_cons_succ]
        refine wpAnyH_only (fuel := 24) (i := 3) (by kernel_rfl) rfl (fun K hK => ?_)
        go_simp
        refine (HSM.out _ hk6).mono ?_
        rintro e wb ⟨rfl, hkx⟩
        try (go_wp2_with fail)
        refine hK.out _ _ ⟨⟨hk6.then hkx, hkl.then hkx⟩, ?_⟩
        clear hK K
        refine wpAnyH_strong (S' := fun W => Keeps No wr W ∧ Keeps No wb W) (fun W k => ⟨k.1, hkl.then (hkx.then k.2)⟩) _ _ _ _ ?_
        replace hk6 := hk6.then hkx
        replace hkl := Keeps.refl No wb
        clear hkx
        try simp only [Act.put, List.setIfInBounds_toArray, List.set_cons_zero, List.set_cons_succ]
        refine wpAnyH_got (fuel := 23) (i := 4) (d := 44) (v := ?_) rfl rfl (by kernel_rfl) (by kernel_rfl) (by kernel_rfl) (fun _ _ _ h => h) (Or.inl ⟨by rfl, ?_⟩) ⟨hk6, hkl⟩ ?_
        rotate_left
        focus (intro W hSw; go_simp; try (with_reducible rfl))
        try simp only [Act.put, List.setIfInBounds_toArray, List.set_cons_zero, List.set_cons_succ]
        refine wpAnyH_got (fuel := 22) (i := 5) (d := 45) (v := ?_) rfl rfl (by kernel_rfl) (by kernel_rfl) (by kernel_rfl) (fun _ _ _ h => h) (Or.inl ⟨by rfl, ?_⟩) ⟨hk6, hkl⟩ ?_
        rotate_left
        focus (intro W hSw; go_simp; try (with_reducible rfl))
        try simp only [Act.put, List.setIfInBounds_toArray, List.set_cons_zero, List.set_cons_succ]
        refine wpAnyH_got (fuel := 21) (i := 6) (d := 46) (v := ?_) rfl rfl (by kernel_rfl) (by kernel_rfl) (by kernel_rfl) (fun _ _ _ h => h) (Or.inl ⟨by rfl, ?_⟩) ⟨hk6, hkl⟩ ?_
        rotate_left
        focus (intro W hSw; go_simp; try (with_reducible rfl))
        try simp only [Act.put, List.setIfInBounds_toArray, List.set_cons_zero, List.set_cons_succ]
        refine wpAnyH_got (fuel := 20) (i := 7) (d := 47) (v := ?_) rfl rfl (by kernel_rfl) (by kernel_rfl) (by kernel_rfl) (fun _ _ _ h => h) (Or.inl ⟨by rfl, ?_⟩) ⟨hk6, hkl⟩ ?_
        rotate_left
        focus (intro W hSw; go_simp; try (with_reducible rfl))
        try simp only [Act.put, List.setIfInBounds_toArray, List.set_cons_zero, List.set_cons_succ]
        refine wpAnyH_got (fuel := 19) (i := 8) (d := 48) (v := ?_) rfl rfl (by kernel_rfl) (by kernel_rfl) (by kernel_rfl) (fun _ _ _ h => h) (Or.inl ⟨by rfl, ?_⟩) ⟨hk6, hkl⟩ ?_
        rotate_left
        focus (intro W hSw; go_simp; try (with_reducible rfl))
        try simp only [Act.put, List.setIfInBounds_toArray, List.set_cons_zero, List.set_cons_succ]
        refine wpAnyH_got (fuel := 18) (i := 9) (d := 49) (v := ?_) rfl rfl (by kernel_rfl) (by kernel_rfl) (by kernel_rfl) (fun _ _ _ h => h) (Or.inl ⟨by rfl, ?_⟩) ⟨hk6, hkl⟩ ?_
        rotate_left
        focus (intro W hSw; go_simp; try (with_reducible rfl))
        try simp only [Act.put, List.setIfInBounds_toArray, List.set_cons_zero, List.set_cons_succ]
        refine wpAnyH_got (fuel := 17) (i := 10) (d := 50) (v := ?_) rfl rfl (by kernel_rfl) (by kernel_rfl) (by kernel_rfl) (fun _ _ _ h => h) (Or.inl ⟨by rfl, ?_⟩) ⟨hk6, hkl⟩ ?_
        rotate_left
        focus (intro W hSw; go_simp; try (with_reducible rfl))
        try simp only [Act.put, List.setIfInBounds_toArray, List.set_cons_zero, List.set_cons_succ]
        refine wpAnyH_got (fuel := 16) (i := 11) (d := 51) (v := ?_) rfl rfl (by kernel_rfl) (by kernel_rfl) (by kernel_rfl) (fun _ _ _ h => h) (Or.inl ⟨by rfl, ?_⟩) ⟨hk6, hkl⟩ ?_
        rotate_left
        focus (intro W hSw; go_simp; try (with_reducible rfl))
        try simp only [Act.put, List.setIfInBounds_toArray, List.set_cons_zero, List.set_cons_succ]
        refine wpAnyH_got (fuel := 15) (i := 12) (d := 52) (v := ?_) rfl rfl (by kernel_rfl) (by kernel_rfl) (by kernel_rfl) (fun _ _ _ h => h) (Or.inl ⟨by rfl, ?_⟩) ⟨hk6, hkl⟩ ?_
        rotate_left
        focus (intro W hSw; go_simp; try (with_reducible rfl))
        try simp only [Act.put, List.setIfInBounds_toArray, List.set_cons_zero, List.set_cons_succ]
        refine wpAnyH_got (fuel := 14) (i := 13) (d := 53) (v := ?_) rfl rfl (by kernel_rfl) (by kernel_rfl) (by kernel_rfl) (fun _ _ _ h => h) (Or.inl ⟨by rfl, ?_⟩) ⟨hk6, hkl⟩ ?_
        rotate_left
        focus (intro W hSw; go_simp; try (with_reducible rfl))
        try simp only [Act.put, List.setIfInBounds_toArray, List.set_cons_zero, List.set_cons_succ]
        refine wpAnyH_got (fuel := 13) (i := 14) (d := 54) (v := ?_) rfl rfl (by kernel_rfl) (by kernel_rfl) (by kernel_rfl) (fun _ _ _ h => h) (Or.inl ⟨by rfl, ?_⟩) ⟨hk6, hkl⟩ ?_
        rotate_left
        focus (intro W hSw; go_simp; try (with_reducible rfl))
        try simp only [Act.put, List.setIfInBounds_toArray, List.set_cons_zero, List.set_cons_succ]
        refine wpAnyH_got (fuel := 12) (i := 15) (d := 55) (v := ?_) rfl rfl (by kernel_rfl) (by kernel_rfl) (by kernel_rfl) (fun _ _ _ h => h) (Or.inl ⟨by rfl, ?_⟩) ⟨hk6, hkl⟩ ?_
        rotate_left
        focus (intro W hSw; go_simp; try (with_reducible rfl))
        try simp only [Act.put, List.setIfInBounds_toArray, List.set_cons_zero, List.set_cons_succ]
        refine wpAnyH_got (fuel := 11) (i := 16) (d := 56) (v := ?_) rfl rfl (by kernel_rfl) (by kernel_rfl) (by kernel_rfl) (fun _ _ _ h => h) (Or.inl ⟨by rfl, ?_⟩) ⟨hk6, hkl⟩ ?_
        rotate_left
        focus (intro W hSw; go_simp; try (with_reducible rfl))
        try simp only [Act.put, List.setIfInBounds_toArray, List.set_cons_zero, List.set_cons_succ]
        refine wpAnyH_got (fuel := 10) (i := 17) (d := 57) (v := ?_) rfl rfl (by kernel_rfl) (by kernel_rfl) (by kernel_rfl) (fun _ _ _ h => h) (Or.inl ⟨by rfl, ?_⟩) ⟨hk6, hkl⟩ ?_
        rotate_left
        focus (intro W hSw; go_simp; try (with_reducible rfl))
        try simp only [Act.put, List.setIfInBounds_toArray, List.set_cons_zero, List.set_cons_succ]
        refine wpAnyH_got (fuel := 9) (i := 18) (d := 58) (v := undef) rfl rfl (by kernel_rfl) (by kernel_rfl) (by kernel_rfl) (fun _ _ _ h => h) (Or.inr ⟨by rfl, rfl⟩) ⟨hk6, hkl⟩ ?_
        try simp only [Act.put, List.setIfInBounds_toArray, List.set_cons_zero, List.set_cons_succ]
        refine wpAnyH_got (fuel := 8) (i := 19) (d := 59) (v := undef) rfl rfl (by kernel_rfl) (by kernel_rfl) (by kernel_rfl) (fun _ _ _ h => h) (Or.inr ⟨by rfl, rfl⟩) ⟨hk6, hkl⟩ ?_
        try simp only [Act.put, List.setIfInBounds_toArray, List.set_cons_zero, List.set_cons_succ]
        refine wpAnyH_got (fuel := 7) (i := 20) (d := 60) (v := undef) rfl rfl (by kernel_rfl) (by kernel_rfl) (by kernel_rfl) (fun _ _ _ h => h) (Or.inr ⟨by rfl, rfl⟩) ⟨hk6, hkl⟩ ?_
        try simp only [Act.put, List.setIfInBounds_toArray, List.set_cons_zero, List.set_cons_succ]
        refine wpAnyH_got (fuel := 6) (i := 21) (d := 61) (v := undef) rfl rfl (by kernel_rfl) (by kernel_rfl) (by kernel_rfl) (fun _ _ _ h => h) (Or.inr ⟨by rfl, rfl⟩) ⟨hk6, hkl⟩ ?_
        try simp only [Act.put, List.setIfInBounds_toArray, List.set_cons_zero, List.set_cons_succ]
        refine wpAnyH_got (fuel := 5) (i := 22) (d := 62) (v := ?_) rfl rfl (by kernel_rfl) (by kernel_rfl) (by kernel_rfl) (fun _ _ _ h => h) (Or.inl ⟨by rfl, ?_⟩) ⟨hk6, hkl⟩ ?_
        rotate_left
        focus (intro W hSw; go_simp; try (with_reducible rfl))
        try simp only [Act.put, List.setIfInBounds_toArray, List.set_cons_zero, List.set_cons_succ]
        refine wpAnyH_got (fuel := 4) (i := 23) (d := 63) (v := ?_) rfl rfl (by kernel_rfl) (by kernel_rfl) (by kernel_rfl) (fun _ _ _ h => h) (Or.inl ⟨by rfl, ?_⟩) ⟨hk6, hkl⟩ ?_
        rotate_left
        focus (intro W hSw; go_simp; try (with_reducible rfl))
        try simp only [Act.put, List.setIfInBounds_toArray, List.set_cons_zero, List.set_cons_succ]
        refine wpAnyH_got (fuel := 3) (i := 24) (d := 64) (v := ?_) rfl rfl (by kernel_rfl) (by kernel_rfl) (by kernel_rfl) (fun _ _ _ h => h) (Or.inl ⟨by rfl, ?_⟩) ⟨hk6, hkl⟩ ?_
        rotate_left
        focus (intro W hSw; go_simp; try (with_reducible rfl))
        try simp only [Act.put, List.setIfInBounds_toArray, List.set_cons_zero, List.set_cons_succ]
        refine wpAnyH_only (fuel := 2) (i := 25) (by kernel_rfl) rfl (fun K hK => ?_)
        go_simp
        refine (HTL.out _ hk6).mono ?_
        rintro e wc ⟨rfl, hkx⟩
        try (go_wp2_with fail)
        refine hK.out _ _ ⟨⟨hk6.then hkx, hkl.then hkx⟩, ?_⟩
        clear hK K
        refine wpAnyH_strong (S' := fun W => Keeps No wr W ∧ Keeps No wc W) (fun W k => ⟨k.1, hkl.then (hkx.then k.2)⟩) _ _ _ _ ?_
        replace hk6 := hk6.then hkx
        replace hkl := Keeps.refl No wc
        clear hkx
        try simp only [Act.put, List.setIfInBounds_toArray, List.set_cons_zero, List.set_cons_succ]
        refine wpAnyH_got (fuel := 1) (i := 26) (d := 66) (v := ?_) rfl rfl (by kernel_rfl) (by kernel_rfl) (by kernel_rfl) (fun _ _ _ h => h) (Or.inl ⟨by rfl, ?_⟩) ⟨hk6, hkl⟩ ?_
        rotate_left
        focus (intro W hSw; go_simp; try (with_reducible rfl))
        try simp only [Act.put, List.setIfInBounds_toArray, List.set_cons_zero, List.set_cons_succ]
        refine wpAnyH_got (fuel := 0) (i := 27) (d := 2) (v := ?_) rfl rfl (by kernel_rfl) (by kernel_rfl) (by kernel_rfl) (fun _ _ _ h => h) (Or.inl ⟨by rfl, ?_⟩) ⟨hk6, hkl⟩ ?_
        rotate_left
        focus (intro W hSw; go_simp; try (with_reducible rfl))
        try simp only [Act.put, List.setIfInBounds_toArray, List.set_cons_zero, List.set_cons_succ]
        refine wpAnyH_done (by kernel_rfl) ?_ _
        have KE := Lib.hid (KW.out.then hk6)
        go_wp2
        go_ret
        exact ⟨rfl, KE.out⟩
      · have hpl : pl = [] := HF0.out hE
        subst hpl
        have hE0 : (E == 0) = false := by simpa using hE
        have HEE := Lib.hid hE
        clear hE
        go_wp2_with fail
        have hk6 := (Keeps.refl No wr).drew
        have hkl := (Keeps.refl No wr).drew
        refine wp_region_held_drew (S := fun W => Keeps No wr W ∧ Keeps No wr W) (by kernel_rfl) ⟨hk6, hkl⟩ (fun _ => ?_)
        refine wpAnyH_got (fuel := 27) (i := 0) (d := 40) (v := ?_) rfl rfl (by kernel_rfl) (by kernel_rfl) (by kernel_rfl) (fun _ _ _ h => h) (Or.inl ⟨by rfl, ?_⟩) ⟨hk6, hkl⟩ ?_
        rotate_left
        focus (intro W hSw; go_simp; try (with_reducible rfl))
        try simp only [Act.put, List.setIfInBounds_toArray, List.set_cons_zero, List.set_cons_succ]
        refine wpAnyH_got (fuel := 26) (i := 2) (d := 42) (v := ?_) rfl rfl (by kernel_rfl) (by kernel_rfl) (by kernel_rfl) (fun _ _ _ h => h) (Or.inl ⟨by rfl, ?_⟩) ⟨hk6, hkl⟩ ?_
        rotate_left
        focus (intro W hSw; go_simp; try (with_reducible rfl))
        try simp only [Act.put, List.setIfInBounds_toArray, List.set_cons_zero, List.set_cons_succ]
        refine wpAnyH_only (fuel := 25) (i := 1) (by kernel_rfl) rfl (fun K hK => ?_)
        go_simp
        refine (HOF.out _).mono ?_
        rintro e wa ⟨rfl, hkx⟩
        try (go_wp2_with fail)
        refine hK.out _ _ ⟨⟨hk6.then hkx, hkl.then hkx⟩, ?_⟩
        clear hK K
        refine wpAnyH_strong (S' := fun W => Keeps No wr W ∧ Keeps No wa W) (fun W k => ⟨k.1, hkl.then (hkx.then k.2)⟩) _ _ _ _ ?_
        replace hk6 := hk6.then hkx
        replace hkl := Keeps.refl No wa
        clear hkx
        try simp only [Act.put, List.setIfInBounds_toArray, List.set_cons_zero, List.set_cons_succ]
        refine wpAnyH_only (fuel := 24) (i := 3) (by kernel_rfl) rfl (fun K hK => ?_)
        go_simp
        refine (HSM.out _ hk6).mono ?_
        rintro e wb ⟨rfl, hkx⟩
        try (go_wp2_with fail)
        refine hK.out _ _ ⟨⟨hk6.then hkx, hkl.then hkx⟩, ?_⟩
        clear hK K
        refine wpAnyH_strong (S' := fun W => Keeps No wr W ∧ Keeps No wb W) (fun W k => ⟨k.1, hkl.then (hkx.then k.2)⟩) _ _ _ _ ?_
        replace hk6 := hk6.then hkx
        replace hkl := Keeps.refl No wb
        clear hkx
        try simp only [Act.put, List.setIfInBounds_toArray, List.set_cons_zero, List.set_cons_succ]
        refine wpAnyH_got (fuel := 23) (i := 4) (d := 44) (v := ?_) rfl rfl (by kernel_rfl) (by kernel_rfl) (by kernel_rfl) (fun _ _ _ h => h) (Or.inl ⟨by rfl, ?_⟩) ⟨hk6, hkl⟩ ?_
        rotate_left
        focus (intro W hSw; go_simp; try (with_reducible rfl))
        try simp only [Act.put, List.setIfInBounds_toArray, List.set_cons_zero, List.set_cons_succ]
        refine wpAnyH_got (fuel := 22) (i := 5) (d := 45) (v := ?_) rfl rfl (by kernel_rfl) (by kernel_rfl) (by kernel_rfl) (fun _ _ _ h => h) (Or.inl ⟨by rfl, ?_⟩) ⟨hk6, hkl⟩ ?_
        rotate_left
        focus (intro W hSw; go_simp; try (with_reducible rfl))
        try simp only [Act.put, List.setIfInBounds_toArray, List.set_cons_zero, List.set_cons_succ]
        refine wpAnyH_got (fuel := 21) (i := 6) (d := 46) (v := ?_) rfl rfl (by kernel_rfl) (by kernel_rfl) (by kernel_rfl) (fun _ _ _ h => h) (Or.inl ⟨by rfl, ?_⟩) ⟨hk6, hkl⟩ ?_
        rotate_left
        focus (intro W hSw; go_simp; try (with_reducible rfl))
        try simp only [Act.put, List.setIfInBounds_toArray, List.set_cons_zero, List.set_cons_succ]
        refine wpAnyH_got (fuel := 20) (i := 7) (d := 47) (v := ?_) rfl rfl (by kernel_rfl) (by kernel_rfl) (by kernel_rfl) (fun _ _ _ h => h) (Or.inl ⟨by rfl, ?_⟩) ⟨hk6, hkl⟩ ?_
        rotate_left
        focus (intro W hSw; go_simp; try (with_reducible rfl))
        try simp only [Act.put, List.setIfInBounds_toArray, List.set_cons_zero, List.set_cons_succ]
        refine wpAnyH_got (fuel := 19) (i := 8) (d := 48) (v := ?_) rfl rfl (by kernel_rfl) (by kernel_rfl) (by kernel_rfl) (fun _ _ _ h => h) (Or.inl ⟨by rfl, ?_⟩) ⟨hk6, hkl⟩ ?_
        rotate_left
        focus (intro W hSw; go_simp; try (with_reducible rfl))
        try simp only [Act.put, List.setIfInBounds_toArray, List.set_cons_zero, List.set_cons_succ]
        refine wpAnyH_got (fuel := 18) (i := 9) (d := 49) (v := ?_) rfl rfl (by kernel_rfl) (by kernel_rfl) (by kernel_rfl) (fun _ _ _ h => h) (Or.inl ⟨by rfl, ?_⟩) ⟨hk6, hkl⟩ ?_
        rotate_left
        focus (intro W hSw; go_simp; try (with_reducible rfl))
        try simp only [Act.put, List.setIfInBounds_toArray, List.set_cons_zero, List.set_cons_succ]
        refine wpAnyH_got (fuel := 17) (i := 10) (d := 50) (v := ?_) rfl rfl (by kernel_rfl) (by kernel_rfl) (by kernel_rfl) (fun _ _ _ h => h) (Or.inl ⟨by rfl, ?_⟩) ⟨hk6, hkl⟩ ?_
        rotate_left
        focus (intro W hSw; go_simp; try (with_reducible rfl))
        try simp only [Act.put, List.setIfInBounds_toArray, List.set_cons_zero, List.set_cons_succ]
        refine wpAnyH_got (fuel := 16) (i := 11) (d := 51) (v := ?_) rfl rfl (by kernel_rfl) (by kernel_rfl) (by kernel_rfl) (fun _ _ _ h => h) (Or.inl ⟨by rfl, ?_⟩) ⟨hk6, hkl⟩ ?_
        rotate_left
        focus (intro W hSw; go_simp; try (with_reducible rfl))
        try simp only [Act.put, List.setIfInBounds_toArray, List.set_cons_zero, List.set_cons_succ]
        refine wpAnyH_got (fuel := 15) (i := 12) (d := 52) (v := ?_) rfl rfl (by kernel_rfl) (by kernel_rfl) (by kernel_rfl) (fun _ _ _ h => h) (Or.inl ⟨by rfl, ?_⟩) ⟨hk6, hkl⟩ ?_
        rotate_left
        focus (intro W hSw; go_simp; try (with_reducible rfl))
        try simp only [Act.put, List.setIfInBounds_toArray, List.set_cons_zero, List.set_cons_succ]
        refine wpAnyH_got (fuel := 14) (i := 13) (d := 53) (v := ?_) rfl rfl (by kernel_rfl) (by kernel_rfl) (by kernel_rfl) (fun _ _ _ h => h) (Or.inl ⟨by rfl, ?_⟩) ⟨hk6, hkl⟩ ?_
        rotate_left
        focus (intro W hSw; go_simp; try (with_reducible rfl))
        try simp only [Act.put, List.setIfInBounds_toArray, List.set_cons_zero, List.set_cons_succ]
        refine wpAnyH_got (fuel := 13) (i := 14) (d := 54) (v := ?_) rfl rfl (by kernel_rfl) (by kernel_rfl) (by kernel_rfl) (fun _ _ _ h => h) (Or.inl ⟨by rfl, ?_⟩) ⟨hk6, hkl⟩ ?_
        rotate_left
        focus (intro W hSw; go_simp; try (with_reducible rfl))
        try simp only [Act.put, List.setIfInBounds_toArray, List.set_cons_zero, List.set_cons_succ]
        refine wpAnyH_got (fuel := 12) (i := 15) (d := 55) (v := ?_) rfl rfl (by kernel_rfl) (by kernel_rfl) (by kernel_rfl) (fun _ _ _ h => h) (Or.inl ⟨by rfl, ?_⟩) ⟨hk6, hkl⟩ ?_
        rotate_left
        focus (intro W hSw; go_simp; try (with_reducible rfl))
        try simp only [Act.put, List.setIfInBounds_toArray, List.set_cons_zero, List.set_cons_succ]
        refine wpAnyH_got (fuel := 11) (i := 16) (d := 56) (v := ?_) rfl rfl (by kernel_rfl) (by kernel_rfl) (by kernel_rfl) (fun _ _ _ h => h) (Or.inl ⟨by rfl, ?_⟩) ⟨hk6, hkl⟩ ?_
        rotate_left
        focus (intro W hSw; go_simp; try (with_reducible rfl))
        try simp only [Act.put, List.setIfInBounds_toArray, List.set_cons_zero, List.set_cons_succ]
        refine wpAnyH_got (fuel := 10) (i := 17) (d := 57) (v := ?_) rfl rfl (by kernel_rfl) (by kernel_rfl) (by kernel_rfl) (fun _ _ _ h => h) (Or.inl ⟨by rfl, ?_⟩) ⟨hk6, hkl⟩ ?_
        rotate_left
        focus (intro W hSw; go_simp; try (with_reducible rfl))
        try simp only [Act.put, List.setIfInBounds_toArray, List.set_cons_zero, List.set_cons_succ]
        refine wpAnyH_got (fuel := 9) (i := 18) (d := 58) (v := ?_) rfl rfl (by kernel_rfl) (by kernel_rfl) (by kernel_rfl) (fun _ _ _ h => h) (Or.inl ⟨by rfl, ?_⟩) ⟨hk6, hkl⟩ ?_
        rotate_left
        focus (intro W hSw; go_simp; try (with_reducible rfl))
        try simp only [Act.put, List.setIfInBounds_toArray, List.set_cons_zero, List.set_cons_succ]
        refine wpAnyH_got (fuel := 8) (i := 19) (d := 59) (v := ?_) rfl rfl (by kernel_rfl) (by kernel_rfl) (by kernel_rfl) (fun _ _ _ h => h) (Or.inl ⟨by rfl, ?_⟩) ⟨hk6, hkl⟩ ?_
        rotate_left
        focus (intro W hSw; go_simp; try (with_reducible rfl))
        try simp only [Act.put, List.setIfInBounds_toArray, List.set_cons_zero, List.set_cons_succ]
        refine wpAnyH_got (fuel := 7) (i := 20) (d := 60) (v := ?_) rfl rfl (by kernel_rfl) (by kernel_rfl) (by kernel_rfl) (fun _ _ _ h => h) (Or.inl ⟨by rfl, ?_⟩) ⟨hk6, hkl⟩ ?_
        rotate_left
        focus (intro W hSw; go_simp; try (with_reducible rfl))
        try simp only [Act.put, List.setIfInBounds_toArray, List.set_cons_zero, List.set_cons_succ]
        refine wpAnyH_got (fuel := 6) (i := 21) (d := 61) (v := ?_) rfl rfl (by kernel_rfl) (by kernel_rfl) (by kernel_rfl) (fun _ _ _ h => h) (Or.inl ⟨by rfl, ?_⟩) ⟨hk6, hkl⟩ ?_
        rotate_left
        focus (intro W hSw; go_simp; try (with_reducible rfl))
        try simp only [Act.put, List.setIfInBounds_toArray, List.set_cons_zero, List.set_cons_succ]
        refine wpAnyH_got (fuel := 5) (i := 22) (d := 62) (v := ?_) rfl rfl (by kernel_rfl) (by kernel_rfl) (by kernel_rfl) (fun _ _ _ h => h) (Or.inl ⟨by rfl, ?_⟩) ⟨hk6, hkl⟩ ?_
        rotate_left
        focus (intro W hSw; go_simp; try (with_reducible rfl))
        try simp only [Act.put, List.setIfInBounds_toArray, List.set_cons_zero, List.set_cons_succ]
        refine wpAnyH_got (fuel := 4) (i := 23) (d := 63) (v := ?_) rfl rfl (by kernel_rfl) (by kernel_rfl) (by kernel_rfl) (fun _ _ _ h => h) (Or.inl ⟨by rfl, ?_⟩) ⟨hk6, hkl⟩ ?_
        rotate_left
        focus (intro W hSw; go_simp; try (with_reducible rfl))
        try simp only [Act.put, List.setIfInBounds_toArray, List.set_cons_zero, List.set_cons_succ]
        refine wpAnyH_got (fuel := 3) (i := 24) (d := 64) (v := ?_) rfl rfl (by kernel_rfl) (by kernel_rfl) (by kernel_rfl) (fun _ _ _ h => h) (Or.inl ⟨by rfl, ?_⟩) ⟨hk6, hkl⟩ ?_
        rotate_left
        focus (intro W hSw; go_simp; try (with_reducible rfl))
        try simp only [Act.put, List.setIfInBounds_toArray, List.set_cons_zero, List.set_cons_succ]
        refine wpAnyH_only (fuel := 2) (i := 25) (by kernel_rfl) rfl (fun K hK => ?_)
        go_simp
        refine (HTL.out _ hk6).mono ?_
        rintro e wc ⟨rfl, hkx⟩
        try (go_wp2_with fail)
        refine hK.out _ _ ⟨⟨hk6.then hkx, hkl.then hkx⟩, ?_⟩
        clear hK K
        refine wpAnyH_strong (S' := fun W => Keeps No wr W ∧ Keeps No wc W) (fun W k => ⟨k.1, hkl.then (hkx.then k.2)⟩) _ _ _ _ ?_
        replace hk6 := hk6.then hkx
        replace hkl := Keeps.refl No wc
        clear hkx
        try simp only [Act.put, List.setIfInBounds_toArray, List.set_cons_zero, List.set_cons_succ]
        refine wpAnyH_got (fuel := 1) (i := 26) (d := 66) (v := ?_) rfl rfl (by kernel_rfl) (by kernel_rfl) (by kernel_rfl) (fun _ _ _ h => h) (Or.inl ⟨by rfl, ?_⟩) ⟨hk6, hkl⟩ ?_
        rotate_left
        focus (intro W hSw; go_simp; try (with_reducible rfl))
        try simp only [Act.put, List.setIfInBounds_toArray, List.set_cons_zero, List.set_cons_succ]
        refine wpAnyH_got (fuel := 0) (i := 27) (d := 2) (v := ?_) rfl rfl (by kernel_rfl) (by kernel_rfl) (by kernel_rfl) (fun _ _ _ h => h) (Or.inl ⟨by rfl, ?_⟩) ⟨hk6, hkl⟩ ?_
        rotate_left
        focus (intro W hSw; go_simp; try (with_reducible rfl))
        try simp only [Act.put, List.setIfInBounds_toArray, List.set_cons_zero, List.set_cons_succ]
        refine wpAnyH_done (by kernel_rfl) ?_ _
        have KE := Lib.hid (KW.out.then hk6)
        go_wp2
        go_ret
        exact ⟨rfl, KE.out⟩
end Go.Proofs.YtieipnnpkngegaaDoor
