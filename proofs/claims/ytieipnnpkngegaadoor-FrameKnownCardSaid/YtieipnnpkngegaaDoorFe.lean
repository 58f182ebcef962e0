/- A frame signed and encoded, as the document tells. -/
import Derived.Test.YtieipnnpkngegaaDoorFq
namespace Go.Proofs.YtieipnnpkngegaaDoor
open Go.RowKit Go.Proofs.YtieipnnpkngegaaDoorW.PrintWords

/-- What is signed; what is encoded. -/
def sigL (f : Frm) : List UInt8 := if mayB f = true then layL f else []
def encL (f : Frm) (tag : Nat) : List UInt8 := if mayB f = true then layL f ++ be8 tag ++ be4 (crcOf (layL f ++ be8 tag)) else []
theorem layL_len (f : Frm) : (layL f).length = 23 + f.pl.length := by simp [layL, be4_len, be2_len]; omega
theorem rsig_nil {w w' : World} (k : Keeps No w w') : CPost w [] w' (.slice none 0 0) := ⟨Ow.nil _ _, k⟩

set_option linter.unusedSimpArgs false in
set_option maxRecDepth 100000 in
set_option maxHeartbeats 3200000 in
theorem refsigned_any (w : World) (f : Frm) (hf : f.Ok) (A : Option Addr) (c : Nat) (hR : Rd w A f.pl.length f.pl) :
    Calls Tryd.prog 47 #[.agg (f.rs (.slice A f.pl.length c))] w (CEnd w (sigL f)) := by
  obtain ⟨kind, ses, ep, num, ack, mask, pl⟩ := f
  have HR := Lib.hid hR
  have HF := Lib.hid hf
  have HM := Lib.hid (fun W => refmay_any W ⟨kind, ses, ep, num, ack, mask, pl⟩ A c)
  have HS := Lib.hid (show sigL ⟨kind, ses, ep, num, ack, mask, pl⟩ = if mayB ⟨kind, ses, ep, num, ack, mask, pl⟩ = true then layL ⟨kind, ses, ep, num, ack, mask, pl⟩ else [] from rfl)
  have HI := Lib.hid (mayB_iff ⟨kind, ses, ep, num, ack, mask, pl⟩).1
  simp only [Frm.rs] at HM ⊢
  generalize sigL ⟨kind, ses, ep, num, ack, mask, pl⟩ = sl at *
  generalize mayB ⟨kind, ses, ep, num, ack, mask, pl⟩ = b at *
  clear hR hf
  go_enter Tryd.func47, Tryd.ntmps47
  go_wp2_with fail
  refine (HM.out _).mono ?_
  rintro e w1 ⟨rfl, hk1⟩
  have K1 := Lib.hid (((Keeps.refl No w).alloc (.cells #[.int .i64 kind, .int .u32 ses, .int .u32 ep, .int .u32 num, .int .u32 ack, .int .u32 mask, .slice A pl.length c] 70)).then hk1)
  have hb := hk1.heap (heap_alloc_new w _) (fun h => h)
  have HB := Lib.hid hb
  clear hk1 hb
  cases b with
  | false =>
    have hS : sl = [] := HS.out
    subst hS
    go_wp2
    go_ret
    exact ⟨_, rfl, rsig_nil K1.out⟩
  | true =>
    have hlen := (HI.out rfl).1
    have hc : ∀ W, Keeps No w1 W → W.heap[w.heap.size]? = some (.cells #[.int .i64 kind, .int .u32 ses, .int .u32 ep, .int .u32 num, .int .u32 ack, .int .u32 mask, .slice A pl.length c] 70 (0, 0)) := fun W k => k.heap HB.out (fun h => h)
    have HC := Lib.hid hc
    have c0 : w1.cell? ⟨w.heap.size, 0, none⟩ = some (.int .i64 kind) := by rw [blk_cell HB.out]; rfl
    have c1 : ∀ o, (w1.alloc o).cell? ⟨w.heap.size, 1, none⟩ = some (.int .u32 ses) := fun o => by rw [blk_cell (hc _ ((Keeps.refl No w1).alloc o))]; rfl
    clear hc
    have hkk := HF.out.kind
    simp only at hkk
    have u_ses := HF.out.ses
    simp only at u_ses
    have u_ep := HF.out.ep
    simp only at u_ep
    have u_num := HF.out.num
    simp only at u_num
    have u_ack := HF.out.ack
    simp only at u_ack
    have u_mask := HF.out.mask
    simp only at u_mask
    have hw_ses : IntKind.u64.wrap (ses : Int) = (ses : Int) := by rw [IntKind.wrap_u64]; omega
    have hw_ep : IntKind.u64.wrap (ep : Int) = (ep : Int) := by rw [IntKind.wrap_u64]; omega
    have hw_num : IntKind.u64.wrap (num : Int) = (num : Int) := by rw [IntKind.wrap_u64]; omega
    have hw_ack : IntKind.u64.wrap (ack : Int) = (ack : Int) := by rw [IntKind.wrap_u64]; omega
    have hw_mask : IntKind.u64.wrap (mask : Int) = (mask : Int) := by rw [IntKind.wrap_u64]; omega
    have hw_l : IntKind.u64.wrap (pl.length : Int) = (pl.length : Int) := by rw [IntKind.wrap_u64]; omega
    have O1 := Lib.hid (show Ow (w1.alloc (.cells #[.int .u8 kind] 5)) w1.heap.size (.slice (some ⟨w1.heap.size, 0, none⟩) 1 1) [UInt8.ofNat kind] from by
      have h := own_lit_of (enc := B8) w1 w1.heap.size 5 [UInt8.ofNat kind] (Nat.le_refl _) (by simp)
      have e : encs B8 [UInt8.ofNat kind] = [.int .u8 kind] := by simp [encs, B8]; omega
      rw [e] at h
      unfold Ow
      rw [e]
      exact h)
    have K1k := Lib.hid ((Keeps.refl No w1).alloc (.cells #[.int .u8 kind] 5))
    have sz := K1k.out.size
    go_wp2_with fail
    generalize w1.alloc (.cells #[.int .u8 kind] 5) = w2 at *
    refine (number_any _ (ses) 4 (by omega) (by omega)).mono ?_
    rintro e xses ⟨rses, rfl, hses⟩
    obtain ⟨Ases, cses, rfl, _, hRses⟩ := hses.row.rd
    rw [numBE_len] at hRses
    rw [numBE_len]
    have OBses := Lib.hid (hses.keeps.owNo O1.out)
    have KBses := Lib.hid (K1k.out.then hses.keeps)
    have Rses := Lib.hid hRses
    have szses := KBses.out.size
    clear hses hRses
    go_wp2_with (at_builtin; go_loud (refine print_append_row_of B8 0 w1.heap.size rfl (.tmp 11) (.tmp 15) 22 5 (.int .u8 0) 1 rfl Tryd.underlying22 Tryd.info5 rfl (by decide) B8_one _ ([UInt8.ofNat kind]) (numBE (ses) 4) Ases 4 cses rfl rfl (by exact OBses.out) (by exact Rses.out) (Below.refl _ _) (by omega) (by simp [numBE_len]) ?_; intro vses wses hown hB hgr hat; have KAses := Lib.hid (KBses.out.grown hgr (fun q hq => .inr (own_base OBses.out q hq))); have c2 : wses.cell? ⟨w.heap.size, 2, none⟩ = some (.int .u32 ep) := (by rw [blk_cell (HC.out _ KAses.out)]; rfl); have OAses := Lib.hid hown; clear hown hB hgr hat))
    go_wp2_with fail
    refine (number_any _ (ep) 4 (by omega) (by omega)).mono ?_
    rintro e xep ⟨rep, rfl, hep⟩
    obtain ⟨Aep, cep, rfl, _, hRep⟩ := hep.row.rd
    rw [numBE_len] at hRep
    rw [numBE_len]
    have OBep := Lib.hid (hep.keeps.owNo OAses.out)
    have KBep := Lib.hid (KAses.out.then hep.keeps)
    have Rep := Lib.hid hRep
    have szep := KBep.out.size
    clear hep hRep
    go_wp2_with (at_builtin; go_loud (refine print_append_row_of B8 0 w1.heap.size rfl (.tmp 17) (.tmp 21) 22 5 (.int .u8 0) 1 rfl Tryd.underlying22 Tryd.info5 rfl (by decide) B8_one _ ([UInt8.ofNat kind] ++ numBE (ses) 4) (numBE (ep) 4) Aep 4 cep rfl rfl (by exact OBep.out) (by exact Rep.out) (Below.refl _ _) (by omega) (by simp [numBE_len]) ?_; intro vep wep hown hB hgr hat; have KAep := Lib.hid (KBep.out.grown hgr (fun q hq => .inr (own_base OBep.out q hq))); have c3 : wep.cell? ⟨w.heap.size, 3, none⟩ = some (.int .u32 num) := (by rw [blk_cell (HC.out _ KAep.out)]; rfl); have OAep := Lib.hid hown; clear hown hB hgr hat))
    go_wp2_with fail
    refine (number_any _ (num) 4 (by omega) (by omega)).mono ?_
    rintro e xnum ⟨rnum, rfl, hnum⟩
    obtain ⟨Anum, cnum, rfl, _, hRnum⟩ := hnum.row.rd
    rw [numBE_len] at hRnum
    rw [numBE_len]
    have OBnum := Lib.hid (hnum.keeps.owNo OAep.out)
    have KBnum := Lib.hid (KAep.out.then hnum.keeps)
    have Rnum := Lib.hid hRnum
    have sznum := KBnum.out.size
    clear hnum hRnum
    go_wp2_with (at_builtin; go_loud (refine print_append_row_of B8 0 w1.heap.size rfl (.tmp 23) (.tmp 27) 22 5 (.int .u8 0) 1 rfl Tryd.underlying22 Tryd.info5 rfl (by decide) B8_one _ ([UInt8.ofNat kind] ++ numBE (ses) 4 ++ numBE (ep) 4) (numBE (num) 4) Anum 4 cnum rfl rfl (by exact OBnum.out) (by exact Rnum.out) (Below.refl _ _) (by omega) (by simp [numBE_len]) ?_; intro vnum wnum hown hB hgr hat; have KAnum := Lib.hid (KBnum.out.grown hgr (fun q hq => .inr (own_base OBnum.out q hq))); have c4 : wnum.cell? ⟨w.heap.size, 4, none⟩ = some (.int .u32 ack) := (by rw [blk_cell (HC.out _ KAnum.out)]; rfl); have OAnum := Lib.hid hown; clear hown hB hgr hat))
    go_wp2_with fail
    refine (number_any _ (ack) 4 (by omega) (by omega)).mono ?_
    rintro e xack ⟨rack, rfl, hack⟩
    obtain ⟨Aack, cack, rfl, _, hRack⟩ := hack.row.rd
    rw [numBE_len] at hRack
    rw [numBE_len]
    have OBack := Lib.hid (hack.keeps.owNo OAnum.out)
    have KBack := Lib.hid (KAnum.out.then hack.keeps)
    have Rack := Lib.hid hRack
    have szack := KBack.out.size
    clear hack hRack
    go_wp2_with (at_builtin; go_loud (refine print_append_row_of B8 0 w1.heap.size rfl (.tmp 29) (.tmp 33) 22 5 (.int .u8 0) 1 rfl Tryd.underlying22 Tryd.info5 rfl (by decide) B8_one _ ([UInt8.ofNat kind] ++ numBE (ses) 4 ++ numBE (ep) 4 ++ numBE (num) 4) (numBE (ack) 4) Aack 4 cack rfl rfl (by exact OBack.out) (by exact Rack.out) (Below.refl _ _) (by omega) (by simp [numBE_len]) ?_; intro vack wack hown hB hgr hat; have KAack := Lib.hid (KBack.out.grown hgr (fun q hq => .inr (own_base OBack.out q hq))); have c5 : wack.cell? ⟨w.heap.size, 5, none⟩ = some (.int .u32 mask) := (by rw [blk_cell (HC.out _ KAack.out)]; rfl); have OAack := Lib.hid hown; clear hown hB hgr hat))
    go_wp2_with fail
    refine (number_any _ (mask) 4 (by omega) (by omega)).mono ?_
    rintro e xmask ⟨rmask, rfl, hmask⟩
    obtain ⟨Amask, cmask, rfl, _, hRmask⟩ := hmask.row.rd
    rw [numBE_len] at hRmask
    rw [numBE_len]
    have OBmask := Lib.hid (hmask.keeps.owNo OAack.out)
    have KBmask := Lib.hid (KAack.out.then hmask.keeps)
    have Rmask := Lib.hid hRmask
    have szmask := KBmask.out.size
    clear hmask hRmask
    go_wp2_with (at_builtin; go_loud (refine print_append_row_of B8 0 w1.heap.size rfl (.tmp 35) (.tmp 39) 22 5 (.int .u8 0) 1 rfl Tryd.underlying22 Tryd.info5 rfl (by decide) B8_one _ ([UInt8.ofNat kind] ++ numBE (ses) 4 ++ numBE (ep) 4 ++ numBE (num) 4 ++ numBE (ack) 4) (numBE (mask) 4) Amask 4 cmask rfl rfl (by exact OBmask.out) (by exact Rmask.out) (Below.refl _ _) (by omega) (by simp [numBE_len]) ?_; intro vmask wmask hown hB hgr hat; have KAmask := Lib.hid (KBmask.out.grown hgr (fun q hq => .inr (own_base OBmask.out q hq))); have c6 : wmask.cell? ⟨w.heap.size, 6, none⟩ = some (.slice A pl.length c) := (by rw [blk_cell (HC.out _ KAmask.out)]; rfl); have OAmask := Lib.hid hown; clear hown hB hgr hat))
    go_wp2_with fail
    refine (number_any _ (pl.length) 2 (by omega) (by omega)).mono ?_
    rintro e xlen ⟨rlen, rfl, hlen⟩
    obtain ⟨Alen, clen, rfl, _, hRlen⟩ := hlen.row.rd
    rw [numBE_len] at hRlen
    rw [numBE_len]
    have OBlen := Lib.hid (hlen.keeps.owNo OAmask.out)
    have KBlen := Lib.hid (KAmask.out.then hlen.keeps)
    have Rlen := Lib.hid hRlen
    have szlen := KBlen.out.size
    clear hlen hRlen
    go_wp2_with (at_builtin; first | (refine print_append_row_of B8 0 w1.heap.size rfl (.tmp 41) (.tmp 46) 22 5 (.int .u8 0) 1 rfl Tryd.underlying22 Tryd.info5 rfl (by decide) B8_one _ ([UInt8.ofNat kind] ++ numBE (ses) 4 ++ numBE (ep) 4 ++ numBE (num) 4 ++ numBE (ack) 4 ++ numBE (mask) 4) (numBE (pl.length) 2) Alen 2 clen rfl rfl (by exact OBlen.out) (by exact Rlen.out) (Below.refl _ _) (by omega) (by simp [numBE_len]) ?_; intro vlen wlen hown hB hgr hat; have KAlen := Lib.hid (KBlen.out.grown hgr (fun q hq => .inr (own_base OBlen.out q hq))); have c6 : wlen.cell? ⟨w.heap.size, 6, none⟩ = some (.slice A pl.length c) := (by rw [blk_cell (HC.out _ KAlen.out)]; rfl); have OAlen := Lib.hid hown; have szz := KAlen.out.size; clear hown hB hgr hat) | (refine print_append_row_of B8 0 w1.heap.size rfl (.tmp 48) (.tmp 50) 22 5 (.int .u8 0) 1 rfl Tryd.underlying22 Tryd.info5 rfl (by decide) B8_one _ ([UInt8.ofNat kind] ++ numBE (ses) 4 ++ numBE (ep) 4 ++ numBE (num) 4 ++ numBE (ack) 4 ++ numBE (mask) 4 ++ numBE (pl.length) 2) pl A pl.length c rfl rfl (by exact OAlen.out) (by exact KAlen.out.rdNo (K1.out.rdNo HR.out)) (Below.refl _ _) (by omega) (by simp [numBE_len]; omega) ?_; intro vz wz hown hB hgr hat; have KZ := Lib.hid (KAlen.out.grown hgr (fun q hq => .inr (own_base OAlen.out q hq))); have OZ := Lib.hid hown; clear hown hB hgr hat))
    have hS : sl = layL ⟨kind, ses, ep, num, ack, mask, pl⟩ := HS.out
    subst hS
    go_wp2
    go_ret
    refine ⟨_, rfl, ?_, K1.out.then KZ.out⟩
    have h : Ow wz w1.heap.size vz _ := OZ.out
    have e : [UInt8.ofNat kind] ++ numBE ses 4 ++ numBE ep 4 ++ numBE num 4 ++ numBE ack 4 ++ numBE mask 4 ++ numBE pl.length 2 ++ pl = layL ⟨kind, ses, ep, num, ack, mask, pl⟩ := by
      simp only [numBE4, numBE2, layL]
      rw [Nat.mod_eq_of_lt u_ses, Nat.mod_eq_of_lt u_ep, Nat.mod_eq_of_lt u_num, Nat.mod_eq_of_lt u_ack, Nat.mod_eq_of_lt u_mask, Nat.mod_eq_of_lt (by omega)]
    rw [← e]
    exact own_less h K1.out.size
end Go.Proofs.YtieipnnpkngegaaDoor
