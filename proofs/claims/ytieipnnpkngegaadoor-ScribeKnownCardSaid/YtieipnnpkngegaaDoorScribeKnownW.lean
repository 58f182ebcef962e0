/- The walk of the law ScribeKnown. -/
import Derived.Test.YtieipnnpkngegaaDoorKn
import Derived.Test.YtieipnnpkngegaaDoorWk
import Derived.Test.YtieipnnpkngegaaDoorRep
namespace Go.Proofs.YtieipnnpkngegaaDoor
open Go.RowKit Go.Proofs.YtieipnnpkngegaaDoorW.PrintWords

set_option maxRecDepth 100000 in
set_option maxHeartbeats 6400000 in
theorem scribeKnown_walk (w : World) (hT : Tabb w) : Calls Tryd.prog 8 #[] w fun e w' => e = .returned (.bool true) ∧ Keeps No w w' := by
  have HT := Lib.hid hT
  clear hT
  have K0 := Lib.hid ((Keeps.refl No w).alloc (.cells #[.slice none 0 0, .int .i64 0] 30))
  have HW0 := Lib.hid (isW_new w w.heap.size (Nat.le_refl _))
  go_enter Tryd.func8, Tryd.ntmps8
  go_wp2_with fail
  have sa : (w.alloc (.cells #[.slice none 0 0, .int .i64 0] 30)).heap.size = w.heap.size + 1 := by simp
  generalize w.alloc (.cells #[.slice none 0 0, .int .i64 0] 30) = wa at *
  refine (wtext_nil _ _ (by decide)).mono ?_
  rintro e w1 ⟨g1, v1, rfl, h1, k1⟩
  have K1 := Lib.hid k1
  have H1 := Lib.hid h1
  have s1 := k1.size
  clear h1 k1
  go_wp2_with fail
  refine (wbyte_ok _ _ g1 v1 _ [7] _ _ _ (H1.out.alloc _) (rd_lit1 w1 7 7 rfl) (by simp; omega) (by simp [be2_len])).mono ?_
  rintro e w2 ⟨rfl, v2, h2⟩
  have K2 := Lib.hid (WPost.outer (K1.out.alloc _) (H1.out.alloc _) h2 (Nat.le_refl _))
  have H2 := Lib.hid h2.is
  have s2 := K2.out.size
  clear h2
  go_wp2_with fail
  refine (wdone_ok _ _ g1 v2 _ H2.out (by omega) (by simp [be2_len])).mono ?_
  rintro e w3 ⟨r, v3, rfl, h3⟩
  have hl : (be2 (ByteArray.size ⟨#[120]⟩) ++ (⟨#[120]⟩ : ByteArray).data.toList ++ [7]) = [0, 1, 120, 7] := by decide
  rw [hl] at h3
  have ob3 := fun q hq => own_base h3.row q hq
  have ol3 := fun q hq => own_lt h3.row q hq
  obtain ⟨A3, c3, rfl, _, hR3⟩ := h3.row.rd
  have R3 := Lib.hid hR3
  have K3 := Lib.hid (WPost.outer K2.out H2.out h3.post (Nat.le_refl _))
  have B3 := Lib.hid (show ∀ ad, A3 = some ad → w2.heap.size ≤ ad.block ∧ ad.block < w3.heap.size from fun ad h => ⟨ob3 ad.block (by rw [h]; rfl), ol3 ad.block (by rw [h]; rfl)⟩)
  clear h3 hR3 hl ob3 ol3
  go_wp2_with fail
  refine (Tryd.repeat_any ⟨#[120]⟩ 65536 w3 (by omega) (by decide)).mono ?_
  rintro e w4 ⟨rfl, b4⟩
  have k34 := Keeps.of_below b4
  have hs : ((⟨(Lib.repeatL (⟨#[120]⟩ : ByteArray).data.toList 65536).toArray⟩ : ByteArray).data.toList).length = 65536 := by rw [List.toList_toArray, Lib.repeatL_length]; rfl
  rw [data_length] at hs
  generalize (⟨(Lib.repeatL (⟨#[120]⟩ : ByteArray).data.toList 65536).toArray⟩ : ByteArray) = x4 at *
  have HX4 := Lib.hid hs
  have K4 := Lib.hid (K3.out.then k34)
  have R4 := Lib.hid (k34.rdNo R3.out)
  have HW4 := Lib.hid (HW0.out.keptNo K4.out)
  have s4 := k34.size
  have s40 := K4.out.size
  clear b4 k34 hs
  go_wp2_with fail
  refine (wtext_long _ _ _ _ x4 (by rw [HX4.out]; decide) HW4.out (by omega)).mono ?_
  rintro e w5 ⟨rfl, v5, h5⟩
  have K5 := Lib.hid (WPost.outer (K0.out.then K4.out) HW4.out h5 (Nat.le_refl _))
  have H5 := Lib.hid h5.is
  have R5 := Lib.hid (h5.keeps.rd R4.out (fun ad h _ e => by
    have h9 := (B3.out ad h).1
    rcases e with e | e
    · omega
    · cases e))
  have s5 := h5.keeps.size
  clear h5
  go_wp2_with fail
  refine (wbyte_bad _ _ _ _ _ _ _ _ (H5.out.alloc _)).mono ?_
  rintro e w6 ⟨rfl, rfl⟩
  go_wp2_with fail
  refine (wdone_bad _ _ _ _ _ (H5.out.alloc _)).mono ?_
  rintro e w6 ⟨rfl, m6, rfl⟩
  have K6 := Lib.hid ((K5.out.alloc (.cells #[.int .u8 1] 5)).drewN m6)
  have R6 := Lib.hid ((((Keeps.refl No w5).alloc (.cells #[.int .u8 1] 5)).drewN m6).rdNo R5.out)
  have s56 := (((Keeps.refl No w5).alloc (.cells #[.int .u8 1] 5)).drewN m6).size
  generalize (w5.alloc (.cells #[.int .u8 1] 5)).drewN m6 = w6 at *
  go_wp2_with fail
  have HW7 := Lib.hid (isW_new w6 w6.heap.size (Nat.le_refl _))
  have K7 := Lib.hid (K6.out.alloc (.cells #[.slice none 0 0, .int .i64 0] 30))
  have R7 := Lib.hid (((Keeps.refl No w6).alloc (.cells #[.slice none 0 0, .int .i64 0] 30)).rdNo R6.out)
  have s7 : (w6.alloc (.cells #[.slice none 0 0, .int .i64 0] 30)).heap.size = w6.heap.size + 1 := by simp
  generalize w6.alloc (.cells #[.slice none 0 0, .int .i64 0] 30) = w7 at *
  refine (Tryd.repeat_any ⟨#[120]⟩ 65535 w7 (by omega) (by decide)).mono ?_
  rintro e w8 ⟨rfl, b8⟩
  have k78 := Keeps.of_below b8
  have hs : ((⟨(Lib.repeatL (⟨#[120]⟩ : ByteArray).data.toList 65535).toArray⟩ : ByteArray).data.toList).length = 65535 := by rw [List.toList_toArray, Lib.repeatL_length]; rfl
  rw [data_length] at hs
  generalize (⟨(Lib.repeatL (⟨#[120]⟩ : ByteArray).data.toList 65535).toArray⟩ : ByteArray) = x8 at *
  have HX8 := Lib.hid hs
  have K8 := Lib.hid (K7.out.then k78)
  have R8 := Lib.hid (k78.rdNo R7.out)
  have HW8 := Lib.hid (HW7.out.keptNo k78)
  have s8 := k78.size
  have s6 := K6.out.size
  clear b8 k78 hs
  go_wp2_with fail
  refine (wtext_ok _ _ _ _ [] x8 (by rw [HX8.out]; decide) HW8.out (by omega) (by rw [HX8.out]; decide)).mono ?_
  rintro e w9 ⟨rfl, v9, h9⟩
  have K9 := Lib.hid (WPost.outer K8.out HW8.out h9 s6)
  have H9 := Lib.hid h9.is
  have s9 := h9.keeps.size
  have R9 := Lib.hid (h9.keeps.rd R8.out (fun ad h _ e => by
    have h9 := (B3.out ad h).2
    rcases e with e | e
    · omega
    · cases e))
  have B9 := Lib.hid (show ∀ q, v9.ownBlock = some q → w8.heap.size ≤ q from fun q hq => by
    rcases h9.row with hr | ⟨b, hb, hle⟩
    · rw [hr] at hq; cases hq
    · rw [hb] at hq; injection hq with hq; omega)
  have hl9 : ([] ++ be2 x8.size ++ x8.data.toList).length = 65537 := by
    rw [List.length_append, List.length_append, be2_len, data_length, HX8.out]; rfl
  generalize ([] ++ be2 x8.size ++ x8.data.toList) = l9 at *
  have HL9 := Lib.hid hl9
  clear h9 hl9
  go_wp2_with fail
  refine (wdone_ok _ _ _ v9 l9 H9.out (by omega) (by rw [HL9.out]; decide)).mono ?_
  rintro e w10 ⟨r, v10, rfl, h10⟩
  obtain ⟨A10, c10, rfl, _, _⟩ := h10.row.rd
  have hl10 := HL9.out
  rw [HL9.out]
  have K10 := Lib.hid (WPost.outer K9.out H9.out h10.post s6)
  have R10 := Lib.hid (h10.post.keeps.rd R9.out (fun ad h _ e => by
    have h9 := (B3.out ad h).2
    rcases e with e | e
    · omega
    · have := B9.out _ e; omega))
  have s10 := h10.post.keeps.size
  clear h10 hl10
  go_wp2_with fail
  refine (rerr_nil _).mono ?_
  rintro e w11 ⟨rfl, rfl⟩
  go_wp2_with fail
  refine (rleft_nil _).mono ?_
  rintro e w11 ⟨rfl, rfl⟩
  go_wp2_with fail
  refine (rbyte_nil _).mono ?_
  rintro e w11 ⟨rfl, rfl⟩
  go_wp2_with fail
  refine (rrest_nil _).mono ?_
  rintro e w11 ⟨rfl, rfl⟩
  go_wp2_with fail
  refine (new_far _ _ _ _ [0, 3, 97, 98] (rd_lit' w10 _ _ 4 rfl rfl (by decide)) (by omega)).mono ?_
  rintro e w11 ⟨g11, A11, c11', rfl, hb11', hc11, hr11, ha11, l11, k11⟩
  have hb11 := k11.heap (heap_alloc_new w10 (.cells #[.int .u8 0, .int .u8 3, .int .u8 97, .int .u8 98] 5)) (fun h => h)
  have c11 : w11.cell? ⟨w10.heap.size, 0, none⟩ = some (.int .u8 0) := by rw [blk_cell hb11]; rfl
  have f11 : w11.frozen? ⟨w10.heap.size, 0, none⟩ = false := blk_frozen hb11 0
  simp only [World.size_alloc] at l11 ha11
  have kst := (Keeps.refl (fun q => q = w10.heap.size) w11).setCell (p := ⟨w10.heap.size, 0, none⟩) (.inl rfl) (.int .u8 9)
  have K11 := Lib.hid (((K10.out.alloc (.cells #[.int .u8 0, .int .u8 3, .int .u8 97, .int .u8 98] 5)).then k11).trans kst (fun i hi => .inr (by have h1 := K10.out.size; have h2 : i = w10.heap.size := hi; omega)))
  have R11 := Lib.hid (kst.rd ((((Keeps.refl No w10).alloc (.cells #[.int .u8 0, .int .u8 3, .int .u8 97, .int .u8 98] 5)).then k11).rdNo R10.out) (fun ad h _ e => by
    have h9 := (B3.out ad h).2
    have e : ad.block = w10.heap.size := e
    omega))
  have I11 := Lib.hid (show IsR (w11.setCell ⟨w10.heap.size, 0, none⟩ (.int .u8 9)) g11 ⟨[0, 3, 97, 98], false⟩ from
    ⟨⟨A11, _, c11', kst.heap hb11' (fun e => by have e : g11 = w10.heap.size := e; omega), hc11, kst.rd hr11 (fun ad h _ e => by have e : ad.block = w10.heap.size := e; have := (ha11 ad h).2; omega), fun ad h => (ha11 ad h).1⟩, fun h => by cases h⟩)
  have s11 := k11.size
  simp only [World.size_alloc] at s11
  clear k11 hb11 hb11' hc11 hr11 ha11 kst
  go_wp2_with fail
  refine (rtext_any _ _ _ I11.out (by decide)).mono ?_
  rintro e w12 ⟨rfl, p12⟩
  rw [show textO ⟨[0, 3, 97, 98], false⟩ = [] from by decide]
  have I12 := Lib.hid (show IsR w12 g11 ⟨[], true⟩ from by have h := p12.is; rw [show textS ⟨[0, 3, 97, 98], false⟩ = ⟨[], true⟩ from rfl] at h; exact h)
  have K12 := Lib.hid (K11.out.trans p12.keeps (fun i hi => .inr (by have h1 := K10.out.size; have h2 : i = g11 := hi; omega)))
  have R12 := Lib.hid (p12.keeps.rd R11.out (fun ad h _ e => by
    have h9 := (B3.out ad h).2
    have e : ad.block = g11 := e
    omega))
  have s12 := p12.keeps.size
  clear p12
  go_wp2_with fail
  refine (bequal_any _ _ _ _ _ _ _ _ [0, 1, 120, 7] (((Keeps.refl No w12).alloc _).rdNo R12.out) (rd_lit' w12 _ _ 4 rfl rfl (by decide))).mono ?_
  rintro e w13 ⟨rfl, rfl⟩
  have I13 := Lib.hid (I12.out.keptNo ((Keeps.refl No w12).alloc (.cells (encs B8 [0, 1, 120, 7]).toArray 5)))
  have K13 := Lib.hid (K12.out.alloc (.cells (encs B8 [0, 1, 120, 7]).toArray 5))
  rw [show (([0, 1, 120, 7] : List UInt8) == [0, 1, 120, 7]) = true from by decide]
  generalize w12.alloc (.cells (encs B8 [0, 1, 120, 7]).toArray 5) = w13 at *
  go_wp2_with fail
  refine (rerr_any _ _ _ I13.out).mono ?_
  rintro e w14 ⟨rfl, rfl⟩
  rw [show errOf ⟨[], true⟩ = 4 from rfl]
  have T13 := Lib.hid (HT.out.keptNo K13.out)
  go_wp2_with fail
  refine (crc_any _ _ _ _ [] (Rd.nil _) T13.out).mono ?_
  rintro e w14 ⟨rfl, rfl⟩
  rw [show crcOf [] = 0 from by decide +kernel]
  have kc := fun (C : Array Value) (n c : Nat) => Lib.run_convert_bytes_const (P := Tryd.prog) w13 22 5 C n c Tryd.underlying22 Tryd.underlying5
  have K14 := Lib.hid (K13.out.alloc (.cells (encs B8 [97]).toArray 5 (1, 2)))
  go_wp2_with fail
  refine (crc_any _ _ _ _ [97] (by exact rd_mark _ _ _ _ 1 _ rfl rfl (by decide) rfl) (by exact HT.out.keptNo K14.out)).mono ?_
  rintro e w14 ⟨rfl, rfl⟩
  rw [show crcOf [97] = 3904355907 from by decide +kernel]
  clear kc
  have K14' := Lib.hid (show Keeps No w (w13.alloc (.cells #[.int .u8 97] 5 (1, 2))) from K14.out)
  generalize w13.alloc (.cells #[.int .u8 97] 5 (1, 2)) = w14 at *
  have kc := fun (C : Array Value) (n c : Nat) => Lib.run_convert_bytes_const (P := Tryd.prog) w14 22 5 C n c Tryd.underlying22 Tryd.underlying5
  have K15 := Lib.hid (K14'.out.alloc (.cells (encs B8 [97, 98, 99]).toArray 5 (3, 4)))
  go_wp2_with fail
  refine (crc_any _ _ _ _ [97, 98, 99] (by exact rd_mark _ _ _ _ 3 _ rfl rfl (by decide) rfl) (by exact HT.out.keptNo K15.out)).mono ?_
  rintro e w15 ⟨rfl, rfl⟩
  rw [show crcOf [97, 98, 99] = 891568578 from by decide +kernel]
  clear kc
  go_wp2_with fail
  refine (wakes_any _ (by exact HT.out.keptNo K15.out)).mono ?_
  rintro e w16 ⟨rfl, hk⟩
  have K16 := Lib.hid (show Keeps No w w16 from K15.out.then hk)
  clear hk
  go_wp2
  go_ret
  exact ⟨rfl, K16.out⟩
end Go.Proofs.YtieipnnpkngegaaDoor
