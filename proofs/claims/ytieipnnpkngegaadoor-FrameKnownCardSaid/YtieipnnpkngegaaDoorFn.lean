/- A frame signed and encoded by the program; encoded by the document. -/
import Derived.Test.YtieipnnpkngegaaDoorFm
import Derived.Test.YtieipnnpkngegaaDoorFe
import Derived.Test.YtieipnnpkngegaaDoorWk
namespace Go.Proofs.YtieipnnpkngegaaDoor
open Go.RowKit Go.Proofs.YtieipnnpkngegaaDoorW.PrintWords

def errE (f : Frm) : Int := if mayB f = true then 0 else 1
def EEnd (w : World) (f : Frm) (tag : Nat) (x : Ending) (w' : World) : Prop := ∃ r, x = .returned (.tuple #[r, .int .i64 (errE f)]) ∧ CPost w (encL f tag) w' r
set_option maxRecDepth 100000 in
set_option maxHeartbeats 3200000 in
theorem signed_any (w : World) (f : Frm) (hf : f.Ok) (A : Option Addr) (c : Nat) (hR : Rd w A f.pl.length f.pl) (hT : MayT w) :
    Calls Tryd.prog 46 #[.agg (f.cs (.slice A f.pl.length c))] w (CEnd w (sigL f)) := by
  have HM := Lib.hid (fun W (h : MayT W) => may_any W f hf A c h)
  have HY := Lib.hid (fun W (h : Keeps No w W) (hl : f.pl.length ≤ 256) => flay_any W f hf A c (h.rdNo hR) hl)
  have HS := Lib.hid (show sigL f = if mayB f = true then layL f else [] from rfl)
  have HI := Lib.hid (mayB_iff f).1
  have HL := Lib.hid (layL_len f)
  have HT := Lib.hid hT
  generalize sigL f = sl at *
  generalize mayB f = b at *
  generalize layL f = ll at *
  obtain ⟨kind, ses, ep, num, ack, mask, pl⟩ := f
  simp only [Frm.cs] at HM HY HI HL ⊢
  clear hR hf hT
  go_enter Tryd.func46, Tryd.ntmps46
  have K0 := Lib.hid ((Keeps.refl No w).alloc (.cells #[.int .u8 kind, .int .u32 ses, .int .u32 ep, .int .u32 num, .int .u32 ack, .int .u32 mask, .slice A pl.length c] 68))
  have hnew := heap_alloc_new w (.cells #[.int .u8 kind, .int .u32 ses, .int .u32 ep, .int .u32 num, .int .u32 ack, .int .u32 mask, .slice A pl.length c] 68)
  go_wp2_with fail
  refine (HM.out _ (HT.out.keptNo K0.out)).mono ?_
  rintro e w1 ⟨rfl, hk1⟩
  have K1 := Lib.hid (K0.out.then hk1)
  have hb := hk1.heap hnew (fun h => h)
  have HB := Lib.hid hb
  have c0 : w1.cell? ⟨w.heap.size, 0, none⟩ = some (.int .u8 kind) := by rw [blk_cell hb]; rfl
  have c1 : w1.cell? ⟨w.heap.size, 1, none⟩ = some (.int .u32 ses) := by rw [blk_cell hb]; rfl
  have c2 : w1.cell? ⟨w.heap.size, 2, none⟩ = some (.int .u32 ep) := by rw [blk_cell hb]; rfl
  have c3 : w1.cell? ⟨w.heap.size, 3, none⟩ = some (.int .u32 num) := by rw [blk_cell hb]; rfl
  have c4 : w1.cell? ⟨w.heap.size, 4, none⟩ = some (.int .u32 ack) := by rw [blk_cell hb]; rfl
  have c5 : w1.cell? ⟨w.heap.size, 5, none⟩ = some (.int .u32 mask) := by rw [blk_cell hb]; rfl
  have c6 : w1.cell? ⟨w.heap.size, 6, none⟩ = some (.slice A pl.length c) := by rw [blk_cell hb]; rfl
  clear hk1 hb hnew
  cases b with
  | false =>
    have hS : sl = [] := HS.out
    subst hS
    go_wp2
    go_ret
    exact ⟨_, rfl, rsig_nil K1.out⟩
  | true =>
    have hlen := (HI.out rfl).1
    have hll := HL.out
    have hS : sl = ll := HS.out
    subst hS
    go_wp2_with fail
    refine (HY.out _ K1.out hlen).mono ?_
    rintro e w2 ⟨g, v, rfl, hw2, hk2⟩
    have K2 := Lib.hid (K1.out.then hk2)
    have s1 := K1.out.size
    have H2 := Lib.hid hw2
    have s2 := hk2.size
    clear hw2 hk2
    go_wp2_with fail
    refine (wdone_ok _ _ g v _ H2.out (by omega) (by omega)).mono ?_
    rintro e w3 ⟨r, v3, rfl, h3⟩
    have K3 := Lib.hid (WPost.outer K2.out H2.out h3.post (by omega))
    have R3 := Lib.hid h3.row
    clear h3
    go_wp2
    go_ret
    exact ⟨r, rfl, own_less R3.out (by omega), K3.out⟩
theorem crcOf_lt (l : List UInt8) : crcOf l < 4294967296 := CrcPlain.lt_xor (k := 32) (by decide) (regOf_lt l)
set_option maxRecDepth 100000 in
set_option maxHeartbeats 3200000 in
theorem encode_any (w : World) (f : Frm) (hf : f.Ok) (A : Option Addr) (c : Nat) (hR : Rd w A f.pl.length f.pl) (hT : MayT w) (tag : Nat) (htag : tag < 18446744073709551616) (hTab : Tabb w) :
    Calls Tryd.prog 42 #[.agg (f.cs (.slice A f.pl.length c)), .int .u64 tag] w (EEnd w f tag) := by
  have HM := Lib.hid (fun W (h : MayT W) => may_any W f hf A c h)
  have HY := Lib.hid (fun W (h : Keeps No w W) (hl : f.pl.length ≤ 256) => flay_any W f hf A c (h.rdNo hR) hl)
  have HS := Lib.hid (show encL f tag = if mayB f = true then layL f ++ be8 tag ++ be4 (crcOf (layL f ++ be8 tag)) else [] from rfl)
  have HE := Lib.hid (show errE f = if mayB f = true then 0 else 1 from rfl)
  have HTB := Lib.hid hTab
  unfold EEnd
  have HI := Lib.hid (mayB_iff f).1
  have HL := Lib.hid (layL_len f)
  have HT := Lib.hid hT
  generalize encL f tag = sl at *
  generalize errE f = er at *
  generalize mayB f = b at *
  generalize layL f = ll at *
  obtain ⟨kind, ses, ep, num, ack, mask, pl⟩ := f
  simp only [Frm.cs] at HM HY HI HL ⊢
  clear hR hf hT hTab
  go_enter Tryd.func42, Tryd.ntmps42
  have K0 := Lib.hid ((Keeps.refl No w).alloc (.cells #[.int .u8 kind, .int .u32 ses, .int .u32 ep, .int .u32 num, .int .u32 ack, .int .u32 mask, .slice A pl.length c] 68))
  have hnew := heap_alloc_new w (.cells #[.int .u8 kind, .int .u32 ses, .int .u32 ep, .int .u32 num, .int .u32 ack, .int .u32 mask, .slice A pl.length c] 68)
  go_wp2_with fail
  refine (HM.out _ (HT.out.keptNo K0.out)).mono ?_
  rintro e w1 ⟨rfl, hk1⟩
  have K1 := Lib.hid (K0.out.then hk1)
  have hb := hk1.heap hnew (fun h => h)
  have HB := Lib.hid hb
  have c0 : w1.cell? ⟨w.heap.size, 0, none⟩ = some (.int .u8 kind) := by rw [blk_cell hb]; rfl
  have c1 : w1.cell? ⟨w.heap.size, 1, none⟩ = some (.int .u32 ses) := by rw [blk_cell hb]; rfl
  have c2 : w1.cell? ⟨w.heap.size, 2, none⟩ = some (.int .u32 ep) := by rw [blk_cell hb]; rfl
  have c3 : w1.cell? ⟨w.heap.size, 3, none⟩ = some (.int .u32 num) := by rw [blk_cell hb]; rfl
  have c4 : w1.cell? ⟨w.heap.size, 4, none⟩ = some (.int .u32 ack) := by rw [blk_cell hb]; rfl
  have c5 : w1.cell? ⟨w.heap.size, 5, none⟩ = some (.int .u32 mask) := by rw [blk_cell hb]; rfl
  have c6 : w1.cell? ⟨w.heap.size, 6, none⟩ = some (.slice A pl.length c) := by rw [blk_cell hb]; rfl
  clear hk1 hb hnew
  cases b with
  | false =>
    have hS : sl = [] := HS.out
    have hE : er = 1 := HE.out
    subst hS hE
    go_wp2
    go_ret2
    exact ⟨_, rfl, rsig_nil K1.out⟩
  | true =>
    have hlen := (HI.out rfl).1
    have hll := HL.out
    have hE : er = 0 := HE.out
    subst hE
    have HSS := Lib.hid (show sl = ll ++ be8 tag ++ be4 (crcOf (ll ++ be8 tag)) from HS.out)
    go_wp2_with fail
    refine (HY.out _ K1.out hlen).mono ?_
    rintro e w2 ⟨g, v, rfl, hw2, hk2⟩
    have K2 := Lib.hid (K1.out.then hk2)
    have s1 := K1.out.size
    have H2 := Lib.hid hw2
    have s2 := hk2.size
    clear hw2 hk2
    go_wp2_with fail
    refine (weight_ok _ _ g v _ (tag : Int) (by omega) (by omega) H2.out (by omega) (by omega)).mono ?_
    rintro e w3 ⟨rfl, v3, h3⟩
    rw [Int.toNat_natCast] at h3
    have K3 := Lib.hid (WPost.outer K2.out H2.out h3 (by omega))
    have H3 := Lib.hid h3.is
    have s3 := h3.keeps.size
    have hl3 : (ll ++ be8 tag).length ≤ 1000 := by rw [List.length_append, be8_len]; omega
    clear h3
    generalize ll ++ be8 tag = l3 at *
    go_wp2_with fail
    refine (wdone_ok _ _ g v3 _ H3.out (by omega) (by omega)).mono ?_
    rintro e w4 ⟨r, v4, rfl, h4⟩
    have K4 := Lib.hid (WPost.outer K3.out H3.out h4.post (by omega))
    have H4 := Lib.hid h4.post.is
    have s4 := h4.post.keeps.size
    obtain ⟨A4, c4', rfl, _, hR4⟩ := h4.row.rd
    have R4 := Lib.hid hR4
    clear h4 hR4
    go_wp2_with fail
    refine (crc_any _ _ _ _ l3 R4.out (HTB.out.keptNo K4.out)).mono ?_
    rintro e w5 ⟨rfl, rfl⟩
    have hcl := crcOf_lt l3
    go_wp2_with fail
    refine (wfour_ok _ _ g v4 _ (crcOf l3 : Nat) (by omega) (by omega) H4.out (by omega) (by omega)).mono ?_
    rintro e w6 ⟨rfl, v6, h6⟩
    rw [Int.toNat_natCast] at h6
    have K6 := Lib.hid (WPost.outer K4.out H4.out h6 (by omega))
    have H6 := Lib.hid h6.is
    have s6 := h6.keeps.size
    have hl6 : (l3 ++ be4 (crcOf l3)).length ≤ 2000 := by rw [List.length_append, be4_len]; omega
    rw [← HSS.out] at hl6
    have H6 := Lib.hid (show IsW w6 _ g v6 sl 0 from HSS.out ▸ H6.out)
    clear h6
    go_wp2_with fail
    refine (wdone_ok _ _ g v6 _ H6.out (by omega) (by omega)).mono ?_
    rintro e w7 ⟨r7, v7, rfl, h7⟩
    have K7 := Lib.hid (WPost.outer K6.out H6.out h7.post (by omega))
    have R7 := Lib.hid h7.row
    clear h7
    go_wp2
    go_ret2
    exact ⟨r7, rfl, own_less R7.out (by omega), K7.out⟩
set_option maxRecDepth 100000 in
set_option maxHeartbeats 3200000 in
theorem refencode_any (w : World) (f : Frm) (hf : f.Ok) (A : Option Addr) (c : Nat) (hR : Rd w A f.pl.length f.pl) (tag : Nat) (htag : tag < 18446744073709551616) :
    Calls Tryd.prog 43 #[.agg (f.rs (.slice A f.pl.length c)), .int .u64 tag] w (EEnd w f tag) := by
  have HM := Lib.hid (fun W => refmay_any W f A c)
  have HY := Lib.hid (fun W (h : Keeps No w W) => refsigned_any W f hf A c (h.rdNo hR))
  have HS := Lib.hid (show encL f tag = if mayB f = true then layL f ++ be8 tag ++ be4 (crcOf (layL f ++ be8 tag)) else [] from rfl)
  have HE := Lib.hid (show errE f = if mayB f = true then 0 else 1 from rfl)
  have HG := Lib.hid (show sigL f = if mayB f = true then layL f else [] from rfl)
  unfold EEnd
  have HI := Lib.hid (mayB_iff f).1
  have HL := Lib.hid (layL_len f)
  generalize encL f tag = sl at *
  generalize errE f = er at *
  generalize sigL f = gl at *
  generalize mayB f = b at *
  generalize layL f = ll at *
  obtain ⟨kind, ses, ep, num, ack, mask, pl⟩ := f
  simp only [Frm.rs] at HM HY HI HL ⊢
  clear hR hf
  go_enter Tryd.func43, Tryd.ntmps43
  go_wp2_with fail
  refine (HM.out _).mono ?_
  rintro e w1 ⟨rfl, hk1⟩
  have K1 := Lib.hid (((Keeps.refl No w).alloc _).then hk1)
  have hb := hk1.heap (heap_alloc_new w _) (fun h => h)
  have c0 : w1.cell? ⟨w.heap.size, 0, none⟩ = some (.int .i64 kind) := by rw [blk_cell hb]; rfl
  have c1 : w1.cell? ⟨w.heap.size, 1, none⟩ = some (.int .u32 ses) := by rw [blk_cell hb]; rfl
  have c2 : w1.cell? ⟨w.heap.size, 2, none⟩ = some (.int .u32 ep) := by rw [blk_cell hb]; rfl
  have c3 : w1.cell? ⟨w.heap.size, 3, none⟩ = some (.int .u32 num) := by rw [blk_cell hb]; rfl
  have c4 : w1.cell? ⟨w.heap.size, 4, none⟩ = some (.int .u32 ack) := by rw [blk_cell hb]; rfl
  have c5 : w1.cell? ⟨w.heap.size, 5, none⟩ = some (.int .u32 mask) := by rw [blk_cell hb]; rfl
  have c6 : w1.cell? ⟨w.heap.size, 6, none⟩ = some (.slice A pl.length c) := by rw [blk_cell hb]; rfl
  clear hk1 hb
  cases b with
  | false =>
    have hS : sl = [] := HS.out
    have hE : er = 1 := HE.out
    subst hS hE
    go_wp2
    go_ret2
    exact ⟨_, rfl, rsig_nil K1.out⟩
  | true =>
    have hlen := (HI.out rfl).1
    have hll := HL.out
    have hE : er = 0 := HE.out
    have hG : gl = ll := HG.out
    subst hE hG
    have HSS := Lib.hid (show sl = gl ++ be8 tag ++ be4 (crcOf (gl ++ be8 tag)) from HS.out)
    go_wp2_with fail
    refine (HY.out _ K1.out).mono ?_
    rintro e w2 ⟨r2, rfl, h2⟩
    have K2 := Lib.hid (K1.out.then h2.keeps)
    have R2 := Lib.hid h2.row
    have s1 := K1.out.size
    have s2 := h2.keeps.size
    clear h2
    go_wp2_with fail
    refine (number_any _ tag 8 (by omega) (by omega)).mono ?_
    rintro e w3 ⟨r3, rfl, h3⟩
    obtain ⟨A3, c3', rfl, _, hR3⟩ := h3.row.rd
    rw [numBE_len] at hR3
    rw [numBE_len]
    have OB3 := Lib.hid (show Ow w3 w.heap.size r2 gl from h3.keeps.owNo (own_less R2.out s1))
    have KBa := Lib.hid (K2.out.then h3.keeps)
    have R3 := Lib.hid hR3
    have s3 := KBa.out.size
    clear h3 hR3
    go_wp2_with (at_builtin; go_loud (refine print_append_row_of B8 0 w.heap.size rfl (.tmp 11) (.tmp 13) 22 5 (.int .u8 0) 1 rfl Tryd.underlying22 Tryd.info5 rfl (by decide) B8_one _ (gl) (numBE tag 8) A3 8 c3' rfl rfl (by exact OB3.out) (by exact R3.out) (Below.refl _ _) (by omega) (by simp; omega) ?_; intro va wa hown hB hgr hat; have KAa := Lib.hid (KBa.out.grown hgr (fun q hq => .inr (own_base OB3.out q hq))); have OAa := Lib.hid hown; have sAa := KAa.out.size; clear hown hB hgr hat))
    have hl8 : (gl ++ numBE tag 8).length ≤ 1000 := by rw [List.length_append, numBE_len]; omega
    have HE8 := Lib.hid (show gl ++ numBE tag 8 = gl ++ be8 tag from by rw [numBE8, Nat.mod_eq_of_lt htag])
    have OA := Lib.hid (show Ow wa w.heap.size va (gl ++ numBE tag 8) from OAa.out)
    generalize gl ++ numBE tag 8 = l8 at *
    obtain ⟨A8, c8, rfl, _, hR8⟩ := OA.out.rd
    have R8 := Lib.hid hR8
    clear hR8
    go_wp2_with fail
    refine (refcrc_any _ _ _ _ l8 R8.out).mono ?_
    rintro e w5 ⟨rfl, rfl⟩
    have hcl := crcOf_lt l8
    have hwc : IntKind.u64.wrap ((crcOf l8 : Nat) : Int) = ((crcOf l8 : Nat) : Int) := by rw [IntKind.wrap_u64]; omega
    go_wp2_with fail
    refine (number_any _ (crcOf l8) 4 (by omega) (by omega)).mono ?_
    rintro e w6 ⟨r6, rfl, h6⟩
    obtain ⟨A6, c6', rfl, _, hR6⟩ := h6.row.rd
    rw [numBE_len] at hR6
    rw [numBE_len]
    have OB6 := Lib.hid (show Ow w6 w.heap.size (.slice A8 l8.length c8) l8 from h6.keeps.owNo OA.out)
    have KBb := Lib.hid (KAa.out.then h6.keeps)
    have R6 := Lib.hid hR6
    have s6 := KBb.out.size
    clear h6 hR6
    go_wp2_with (at_builtin; go_loud (refine print_append_row_of B8 0 w.heap.size rfl (.tmp 15) (.tmp 19) 22 5 (.int .u8 0) 1 rfl Tryd.underlying22 Tryd.info5 rfl (by decide) B8_one _ l8 (numBE (crcOf l8) 4) A6 4 c6' rfl rfl (by exact OB6.out) (by exact R6.out) (Below.refl _ _) (by omega) (by omega) ?_; intro vb wb hown hB hgr hat; have KAb := Lib.hid (KBb.out.grown hgr (fun q hq => .inr (own_base OB6.out q hq))); have OAb := Lib.hid hown; clear hown hB hgr hat))
    have hE : sl = l8 ++ numBE (crcOf l8) 4 := by
      rw [HSS.out, ← HE8.out, numBE4, Nat.mod_eq_of_lt hcl]
    have HEE := Lib.hid hE
    clear hE
    go_wp2
    go_ret2
    refine ⟨_, rfl, ?_, KAb.out⟩
    rw [HEE.out]
    exact OAb.out
end Go.Proofs.YtieipnnpkngegaaDoor
