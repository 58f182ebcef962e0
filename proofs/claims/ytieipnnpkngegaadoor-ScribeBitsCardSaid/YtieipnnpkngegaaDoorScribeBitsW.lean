/- The walk of the law ScribeBits. -/
import Derived.Test.YtieipnnpkngegaaDoorWk
namespace Go.Proofs.YtieipnnpkngegaaDoor
open Go.RowKit Go.Proofs.YtieipnnpkngegaaDoorW.PrintWords
/-- The byte of 'by' that place i of four takes. -/
def byOf (n i : Nat) : UInt8 := UInt8.ofNat (n / 2 ^ (24 - 8 * i))
/-- What the loop makes of bytes: from k on so many are turned. -/
def flips (l : List UInt8) (k n : Nat) : Nat → List UInt8
  | 0 => l
  | i + 1 => (flips l k n i).set (k + i) ((flips l k n i).getD (k + i) 0 ^^^ byOf n i)
theorem flips_len (l : List UInt8) (k n i : Nat) : (flips l k n i).length = l.length := by
  induction i with
  | zero => rfl
  | succ i ih => simp [flips, ih]

theorem xorB (b : UInt8) (x : Int) (z : UInt8) (hz : (z.toNat : Int) = x) : Value.int .u8 (bits .xor .u8 (b.toNat : Int) x) = B8 (b ^^^ z) := by
  subst hz
  rw [u8_xor_nat _ _ b.toNat_lt z.toNat_lt, B8, UInt8.toNat_xor]
theorem split4 (M : List UInt8) (k : Nat) (h : k + 4 ≤ M.length) : ∃ p a b c d q, M = p ++ [a, b, c, d] ++ q ∧ p.length = k := by
  have h1 : M.drop k = M[k] :: M[k + 1] :: M[k + 2] :: M[k + 3] :: M.drop (k + 4) := by
    rw [List.drop_eq_getElem_cons (by omega), List.drop_eq_getElem_cons (by omega), List.drop_eq_getElem_cons (by omega), List.drop_eq_getElem_cons (by omega)]
  refine ⟨M.take k, M[k], M[k + 1], M[k + 2], M[k + 3], M.drop (k + 4), ?_, by simp; omega⟩
  conv => lhs; rw [← List.take_append_drop k M, h1]
  simp
theorem flips4 (p q : List UInt8) (a b c d : UInt8) (y : Nat) :
    flips (p ++ [a, b, c, d] ++ q) p.length y 4 = p ++ [a ^^^ byOf y 0, b ^^^ byOf y 1, c ^^^ byOf y 2, d ^^^ byOf y 3] ++ q := by
  simp [flips, List.getD_eq_getElem?_getD]
theorem xor_self_eq (a z : UInt8) : a.toNat = (a ^^^ z).toNat ↔ z.toNat = 0 := by
  rw [UInt8.toNat_xor]
  constructor
  · intro h
    have h2 := congrArg (a.toNat ^^^ ·) h
    simp only [Nat.xor_self, ← Nat.xor_assoc, Nat.zero_xor] at h2
    exact h2.symm
  · intro h
    rw [h, Nat.xor_zero]
theorem bits_law (M : List UInt8) (k y : Nat) (h : k + 4 ≤ M.length) (hy : y < 4294967296) : crcOf M = crcOf (flips M k y 4) ↔ y = 0 := by
  obtain ⟨p, a, b, c, d, q, rfl, rfl⟩ := split4 M k h
  rw [flips4]
  unfold crcOf
  simp only [List.map_append, List.map_cons, List.map_nil]
  have hm : ∀ l : List UInt8, ∀ x ∈ l.map UInt8.toNat, x < 256 := by
    intro l x hx
    simp only [List.mem_map] at hx
    obtain ⟨z, _, rfl⟩ := hx
    exact z.toNat_lt
  rw [CrcPlain.crc_four _ _ _ _ _ _ _ _ _ _ (hm _) (hm _) a.toNat_lt b.toNat_lt c.toNat_lt d.toNat_lt (a ^^^ byOf y 0).toNat_lt (b ^^^ byOf y 1).toNat_lt (c ^^^ byOf y 2).toNat_lt (d ^^^ byOf y 3).toNat_lt, xor_self_eq, xor_self_eq, xor_self_eq, xor_self_eq]
  simp [byOf]
  omega

set_option maxRecDepth 100000 in
set_option maxHeartbeats 3200000 in
theorem scribeBits_walk (w : World) (A : Option Addr) (n c : Nat) (l : List UInt8) (hR : Rd w A n l) (hc : n ≤ c) (at_ : Int) (ha0 : 0 ≤ at_) (ha : at_ < 65536) (by_ : Int) (hb0 : 0 ≤ by_) (hb : by_ < 4294967296) (hT : Tabb w) :
    Calls Tryd.prog 5 #[.slice A n c, .int .u16 at_, .int .u32 by_] w fun e w' => e = .returned (.bool true) ∧ Keeps No w w' := by
  have hn : n ≤ 9223372036854775807 := hR.2.1
  obtain ⟨k0, rfl⟩ := Int.eq_ofNat_of_zero_le ha0
  obtain ⟨y, rfl⟩ := Int.eq_ofNat_of_zero_le hb0
  have hT' := Lib.hid hT
  have hR1 := hR.take (min n 300) (by omega)
  have hmin := min_num n 300 300 rfl
  have hm : min n 300 ≤ 300 := by omega
  have hqn : min n 300 ≤ c := by omega
  generalize l.take (min n 300) = m at hR1
  generalize min n 300 = q at *
  have HR := Lib.hid hR1
  have hml := hR1.1
  have HML := Lib.hid hml
  clear hT hR hR1 hml
  go_enter Tryd.func5, Tryd.ntmps5
  go_wp2_with fail
  refine (bclone_any _ _ _ _ _ HR.out (by omega)).mono ?_
  rintro e w1 ⟨r, rfl, h1⟩
  have H1 := Lib.hid h1
  clear h1
  have hs1 := H1.out.keeps.size
  have hlm : m.length + 4 ≤ 304 := by have := HML.out; omega
  go_wp2_with (at_builtin; refine print_append_row_of B8 0 w.heap.size rfl (.tmp 15) (.tmp 16) 22 5 (.int .u8 0) 1 rfl Tryd.underlying22 Tryd.info5 rfl (by decide) B8_one r m [0, 0, 0, 0] _ 4 4 rfl rfl (by exact H1.out.row.alloc _) (by exact rd_mark w1 _ _ [0, 0, 0, 0] 4 _ rfl rfl (by omega) rfl) (Below.refl _ _) (by simp; omega) (by omega) ?_; intro v1 w2 hown hB hgr hat0)
  have K2 := Lib.hid ((H1.out.keeps.alloc (.cells #[.int .u8 0, .int .u8 0, .int .u8 0, .int .u8 0] 5)).grown hgr (fun k hk => .inr (own_base H1.out.row k hk)))
  clear hB hgr hat0
  have hM4 : 4 ≤ (m ++ [0, 0, 0, 0]).length := by simp
  have hM5 : (m ++ [0, 0, 0, 0]).length ≤ 304 := by simp; omega
  generalize hM : m ++ [0, 0, 0, 0] = M at *
  obtain ⟨A1, c1, rfl, hc1, hR1⟩ := Ow.rd hown
  have HR1 := Lib.hid hR1
  have HB1 := Lib.hid (show ∀ ad, A1 = some ad → ad.block < w2.heap.size from fun ad h => own_lt hown ad.block (by rw [h]; rfl))
  clear hR1 hown hM
  have hs2 := K2.out.size
  go_wp2_with fail
  refine (bclone_any _ _ _ _ M HR1.out (by omega)).mono ?_
  rintro e w3 ⟨r2, rfl, h3⟩
  obtain ⟨g, cap, rfl, hg1, hg2⟩ := h3.row.form (by omega)
  have H3 := Lib.hid h3
  clear h3
  have hs3 := H3.out.keeps.size
  obtain ⟨k, hkv, hkl⟩ : ∃ k : Nat, (k0 : Int) % ((M.length : Int) - 3) = (k : Int) ∧ k + 4 ≤ M.length := by
    refine ⟨k0 % (M.length - 3), by rw [show (M.length : Int) - 3 = ((M.length - 3 : Nat) : Int) by omega]; exact (Int.natCast_emod ..).symm, ?_⟩
    have : k0 % (M.length - 3) < M.length - 3 := Nat.mod_lt _ (by omega)
    omega
  go_wp2
  rw [hkv]
  have HK := Lib.hid hkv
  clear hkv
  have HR3 := Lib.hid (H3.out.keeps.rdNo HR1.out)
  go_loopw [26] (fun i wr => ∃ j : Nat, j ≤ 4 ∧ i = .int .i64 j ∧ wr.ownsRow w2.heap.size 5 1 (.slice (some ⟨g, 0, none⟩) M.length cap) M.length (encs B8 (flips M k y j)) ∧ Keeps (fun q => q = g) w3 wr) (fun i _ => 4 - (intOf i).toNat)
  case atStart => exact ⟨0, by omega, rfl, H3.out.row, Keeps.refl _ _⟩
  case round =>
    obtain ⟨j, hj, rfl, ho, hk⟩ := hrel
    have HO := Lib.hid ho
    have HKK := Lib.hid hk
    clear ho hk
    by_cases hj4 : j < 4
    · have hcl := (own_at_of (d := (0 : UInt8)) HO.out ((k + j : Nat) : Int) (by omega) (by omega)).1
      have hcf := (own_at_of (d := (0 : UInt8)) HO.out ((k + j : Nat) : Int) (by omega) (by omega)).2
      simp only [Int.toNat_natCast, rdOf, B8] at hcl hcf
      have HF := Lib.hid (show (flips M k y (j + 1)) = (flips M k y j).set (k + j) ((flips M k y j).getD (k + j) 0 ^^^ byOf y j) from rfl)
      generalize (flips M k y j).getD (k + j) 0 = b at *
      have hb := b.toNat_lt
      rcases (show j = 0 ∨ j = 1 ∨ j = 2 ∨ j = 3 by omega) with rfl | rfl | rfl | rfl
      · simp only [Nat.add_zero] at hcl hcf
        have HV := Lib.hid (xorB b ((y : Int) / 16777216) (byOf y 0) (by simp [byOf]; omega))
        go_wp2
        go_region
        go_wp2
        go_roundw
        case rel =>
          refine ⟨0 + 1, by omega, rfl, ?_, ?_⟩
          · rw [HF.out, HV.out]
            have hs := (own_store_of HO.out ((k + 0 : Nat) : Int) (b ^^^ byOf y 0)).1
            rw [Int.toNat_natCast] at hs
            exact hs
          · exact (HKK.out.setCell (.inl rfl) _).drew
        case measure => simp [intOf]
      · have HV := Lib.hid (xorB b ((y : Int) / 65536 % 256) (byOf y 1) (by simp [byOf]))
        go_wp2
        go_region
        go_wp2
        go_roundw
        case rel =>
          refine ⟨1 + 1, by omega, rfl, ?_, ?_⟩
          · rw [HF.out, HV.out]
            have hs := (own_store_of HO.out ((k + 1 : Nat) : Int) (b ^^^ byOf y 1)).1
            rw [Int.toNat_natCast] at hs
            exact hs
          · exact (HKK.out.setCell (.inl rfl) _).drew
        case measure => simp [intOf]
      · have HV := Lib.hid (xorB b ((y : Int) / 256 % 256) (byOf y 2) (by simp [byOf]))
        go_wp2
        go_region
        go_wp2
        go_roundw
        case rel =>
          refine ⟨2 + 1, by omega, rfl, ?_, ?_⟩
          · rw [HF.out, HV.out]
            have hs := (own_store_of HO.out ((k + 2 : Nat) : Int) (b ^^^ byOf y 2)).1
            rw [Int.toNat_natCast] at hs
            exact hs
          · exact (HKK.out.setCell (.inl rfl) _).drew
        case measure => simp [intOf]
      · have HV := Lib.hid (xorB b ((y : Int) % 256) (byOf y 3) (by simp [byOf]))
        go_wp2
        go_region
        go_wp2
        go_roundw
        case rel =>
          refine ⟨3 + 1, by omega, rfl, ?_, ?_⟩
          · rw [HF.out, HV.out]
            have hs := (own_store_of HO.out ((k + 3 : Nat) : Int) (b ^^^ byOf y 3)).1
            rw [Int.toNat_natCast] at hs
            exact hs
          · exact (HKK.out.setCell (.inl rfl) _).drew
        case measure => simp [intOf]
    · obtain rfl : j = 4 := by omega
      have HRa := Lib.hid (HKK.out.rd HR3.out (fun ad h _ (e : ad.block = g) => by have := HB1.out ad h; omega))
      obtain ⟨A2, c2, hv2, _, hR2⟩ := Ow.rd (l := flips M k y 4) (v := .slice (some ⟨g, 0, none⟩) M.length cap) (by unfold Ow; rw [flips_len]; exact HO.out)
      have hA2 : A2 = some ⟨g, 0, none⟩ := by injection hv2 with h; exact h.symm
      clear hv2
      subst hA2
      rw [flips_len] at hR2
      have HRb := Lib.hid hR2
      have hlaw := bits_law M k y hkl (by omega)
      have HT2 := Lib.hid (((hT'.out.keptNo K2.out).keptNo H3.out.keeps).kept HKK.out (by have := hT'.out.lt; omega))
      have HKF := Lib.hid ((K2.out.then H3.out.keeps).trans HKK.out (fun i hi => .inr (by omega)))
      clear hR2
      by_cases hy : y = 0
      · have e1 : (((crcOf M : Nat) : Int) == ((crcOf (flips M k y 4) : Nat) : Int)) = true := by rw [beq_iff_eq]; have := hlaw.2 hy; omega
        have e2 : ((y : Int) == 0) = true := by rw [beq_iff_eq]; omega
        have E1 := Lib.hid e1
        clear hlaw hy e1
        go_wp2_with fail
        refine (crc_any _ _ _ _ _ HRa.out HT2.out).mono ?_
        rintro e w4 ⟨rfl, rfl⟩
        go_wp2_with fail
        refine (crc_any _ _ _ _ _ HRb.out HT2.out).mono ?_
        rintro e w4 ⟨rfl, rfl⟩
        have e1 := E1.out
        go_wp2_with fail
        refine (wakes_any _ HT2.out).mono ?_
        rintro e w5 ⟨rfl, hk5⟩
        have HK5 := Lib.hid hk5
        clear hk5
        go_wp2
        go_ret
        exact ⟨rfl, HKF.out.then HK5.out⟩
      · have e1 : (((crcOf M : Nat) : Int) == ((crcOf (flips M k y 4) : Nat) : Int)) = false := by rw [beq_eq_false_iff_ne]; intro h; exact hy (hlaw.1 (by omega))
        have e2 : ((y : Int) == 0) = false := by rw [beq_eq_false_iff_ne]; omega
        have E1 := Lib.hid e1
        clear hlaw hy e1
        go_wp2_with fail
        refine (crc_any _ _ _ _ _ HRa.out HT2.out).mono ?_
        rintro e w4 ⟨rfl, rfl⟩
        go_wp2_with fail
        refine (crc_any _ _ _ _ _ HRb.out HT2.out).mono ?_
        rintro e w4 ⟨rfl, rfl⟩
        have e1 := E1.out
        go_wp2_with fail
        refine (wakes_any _ HT2.out).mono ?_
        rintro e w5 ⟨rfl, hk5⟩
        have HK5 := Lib.hid hk5
        clear hk5
        go_wp2
        go_ret
        exact ⟨rfl, HKF.out.then HK5.out⟩
end Go.Proofs.YtieipnnpkngegaaDoor
