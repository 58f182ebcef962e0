/- There and back, in plain Lean: what is encoded is decoded; a bit turned, cut short, a byte more; what is decoded is encoded to the same. -/
import Derived.Test.YtieipnnpkngegaaDoorDi
namespace Go.Proofs.YtieipnnpkngegaaDoor

theorem mid_take (x y z : List UInt8) (a m : Nat) (ha : x.length = a) (hm : y.length = m) : ((x ++ (y ++ z)).drop a).take m = y := by
  subst ha hm
  rw [List.drop_left', List.take_left']
  · rfl
  · rfl
theorem natBE_inj : ∀ (n : Nat) (l m : List UInt8), l.length = n → m.length = n → natBE l = natBE m → l = m
  | 0, l, m, hl, hm, _ => by rw [List.length_eq_zero_iff.1 hl, List.length_eq_zero_iff.1 hm]
  | n + 1, l, m, hl, hm, h => by
    have h1 : l ≠ [] := fun e => by rw [e] at hl; cases hl
    have h2 : m ≠ [] := fun e => by rw [e] at hm; cases hm
    rw [← List.dropLast_concat_getLast h1, ← List.dropLast_concat_getLast h2] at h ⊢
    rw [natBE_snoc, natBE_snoc] at h
    have b1 := (l.getLast h1).toNat_lt
    have b2 := (m.getLast h2).toNat_lt
    have e1 : natBE l.dropLast = natBE m.dropLast := by omega
    have e2 : (l.getLast h1).toNat = (m.getLast h2).toNat := by omega
    rw [natBE_inj n _ _ (by simp [hl]) (by simp [hm]) e1, UInt8.toNat_inj.1 e2]
theorem numBE_natBE : ∀ (n : Nat) (l : List UInt8), l.length = n → numBE (natBE l) n = l := fun n l hl => by
  refine natBE_inj n _ _ (numBE_len n _) hl ?_
  rw [natBE_num, Nat.mod_eq_of_lt]
  have := natBE_lt l
  rwa [hl] at this
theorem crc_one (l m : List Nat) (a a' : Nat) (hl : ∀ x ∈ l, x < 256) (ha : a < 256) (ha' : a' < 256) (h : CrcPlain.crc (l ++ [a] ++ m) = CrcPlain.crc (l ++ [a'] ++ m)) : a = a' := by
  unfold CrcPlain.crc at h
  have h1 : CrcPlain.reg 4294967295 (l ++ [a] ++ m) = CrcPlain.reg 4294967295 (l ++ [a'] ++ m) := by
    have := congrArg (4294967295 ^^^ ·) h
    simpa [← Nat.xor_assoc] using this
  simp only [List.append_assoc, CrcPlain.reg_append] at h1
  have hr := CrcPlain.reg_lt l hl 4294967295 (by decide)
  generalize CrcPlain.reg 4294967295 l = r at *
  simp only [CrcPlain.reg] at h1
  have h2 := CrcPlain.reg_diff m (CrcPlain.step8 (r ^^^ a)) (CrcPlain.step8 (r ^^^ a'))
  rw [h1, Nat.xor_self] at h2
  have l1 : CrcPlain.step8 (r ^^^ a) < 2 ^ 32 := CrcPlain.step8_lt (CrcPlain.lt_xor hr (by omega))
  have l2 : CrcPlain.step8 (r ^^^ a') < 2 ^ 32 := CrcPlain.step8_lt (CrcPlain.lt_xor hr (by omega))
  have h3 := CrcPlain.reg_zeros m _ (CrcPlain.lt_xor l1 l2) h2.symm
  rw [← CrcPlain.step8_xor] at h3
  have h4 := CrcPlain.step8_zero (CrcPlain.lt_xor (CrcPlain.lt_xor hr (by omega)) (CrcPlain.lt_xor hr (by omega))) h3
  have h5 : (r ^^^ a) ^^^ (r ^^^ a') = a ^^^ a' := by
    rw [CrcPlain.xx, Nat.xor_self, Nat.zero_xor]
  rw [h5] at h4
  exact CrcPlain.xor_eq_zero h4
/-- A datagram's parts, each at its place. -/
theorem lay_n (f : Frm) (h : f.pl.length < 65536) (r : List UInt8) : decN (layL f ++ r) = f.pl.length := by
  unfold decN
  rw [show layL f ++ r = ([UInt8.ofNat f.kind] ++ be4 f.ses ++ be4 f.ep ++ be4 f.num ++ be4 f.ack ++ be4 f.mask) ++ (be2 f.pl.length ++ (f.pl ++ r)) by simp [layL, List.append_assoc],
    mid_take _ _ _ 21 2 (by simp [be4_len]) (be2_len _), natBE_be2 _ h]
theorem lay_frm (f : Frm) (hf : f.Ok) (h : f.pl.length < 65536) (r : List UInt8) : frmOf (layL f ++ r) = f := by
  have hk : natBE [UInt8.ofNat f.kind] = f.kind := by have := hf.kind; simp [natBE]; omega
  unfold frmOf
  rw [lay_n f h r]
  have e0 : (layL f ++ r).take 1 = [UInt8.ofNat f.kind] := by simp [layL]
  have e1 : ((layL f ++ r).drop 1).take 4 = be4 f.ses := by
    rw [show layL f ++ r = [UInt8.ofNat f.kind] ++ (be4 f.ses ++ (be4 f.ep ++ be4 f.num ++ be4 f.ack ++ be4 f.mask ++ be2 f.pl.length ++ f.pl ++ r)) by simp [layL, List.append_assoc]]
    exact mid_take _ _ _ 1 4 rfl (be4_len _)
  have e2 : ((layL f ++ r).drop 5).take 4 = be4 f.ep := by
    rw [show layL f ++ r = ([UInt8.ofNat f.kind] ++ be4 f.ses) ++ (be4 f.ep ++ (be4 f.num ++ be4 f.ack ++ be4 f.mask ++ be2 f.pl.length ++ f.pl ++ r)) by simp [layL, List.append_assoc]]
    exact mid_take _ _ _ 5 4 rfl (be4_len _)
  have e3 : ((layL f ++ r).drop 9).take 4 = be4 f.num := by
    rw [show layL f ++ r = ([UInt8.ofNat f.kind] ++ be4 f.ses ++ be4 f.ep) ++ (be4 f.num ++ (be4 f.ack ++ be4 f.mask ++ be2 f.pl.length ++ f.pl ++ r)) by simp [layL, List.append_assoc]]
    exact mid_take _ _ _ 9 4 rfl (be4_len _)
  have e4 : ((layL f ++ r).drop 13).take 4 = be4 f.ack := by
    rw [show layL f ++ r = ([UInt8.ofNat f.kind] ++ be4 f.ses ++ be4 f.ep ++ be4 f.num) ++ (be4 f.ack ++ (be4 f.mask ++ be2 f.pl.length ++ f.pl ++ r)) by simp [layL, List.append_assoc]]
    exact mid_take _ _ _ 13 4 rfl (be4_len _)
  have e5 : ((layL f ++ r).drop 17).take 4 = be4 f.mask := by
    rw [show layL f ++ r = ([UInt8.ofNat f.kind] ++ be4 f.ses ++ be4 f.ep ++ be4 f.num ++ be4 f.ack) ++ (be4 f.mask ++ (be2 f.pl.length ++ f.pl ++ r)) by simp [layL, List.append_assoc]]
    exact mid_take _ _ _ 17 4 rfl (be4_len _)
  have e6 : ((layL f ++ r).drop 23).take f.pl.length = f.pl := by
    rw [show layL f ++ r = ([UInt8.ofNat f.kind] ++ be4 f.ses ++ be4 f.ep ++ be4 f.num ++ be4 f.ack ++ be4 f.mask ++ be2 f.pl.length) ++ (f.pl ++ r) by simp [layL, List.append_assoc]]
    exact mid_take _ _ _ 23 _ rfl rfl
  rw [e0, e1, e2, e3, e4, e5, e6, hk, natBE_be4 _ hf.ses, natBE_be4 _ hf.ep, natBE_be4 _ hf.num, natBE_be4 _ hf.ack, natBE_be4 _ hf.mask]
theorem dec_enc (f : Frm) (hf : f.Ok) (hm : mayB f = true) (t : Nat) (ht : t < 18446744073709551616) : decE (encL f t) = 0 ∧ decF (encL f t) = f ∧ decT (encL f t) = t := by
  have hl : f.pl.length ≤ 256 := ((mayB_iff _).1 hm).1
  have ed : encL f t = layL f ++ (be8 t ++ be4 (crcOf (layL f ++ be8 t))) := by rw [show encL f t = layL f ++ be8 t ++ be4 (crcOf (layL f ++ be8 t)) from if_pos hm, List.append_assoc]
  have hc := crcOf_lt (layL f ++ be8 t)
  have hn : decN (encL f t) = f.pl.length := by rw [ed]; exact lay_n f (by omega) _
  have hF : frmOf (encL f t) = f := by rw [ed]; exact lay_frm f hf (by omega) _
  have hlen : (encL f t).length = 35 + f.pl.length := by rw [ed, List.length_append, List.length_append, layL_len, be8_len, be4_len]; omega
  have hd : (encL f t).drop (31 + f.pl.length) = be4 (crcOf (layL f ++ be8 t)) := by
    rw [ed, ← List.append_assoc, List.drop_left']
    rw [List.length_append, layL_len, be8_len]; omega
  have htk : (encL f t).take (31 + f.pl.length) = layL f ++ be8 t := by
    rw [ed, ← List.append_assoc, List.take_left']
    rw [List.length_append, layL_len, be8_len]; omega
  have hE : decE (encL f t) = 0 := by
    unfold decE
    rw [hn, hlen, if_neg (by omega), if_neg (by omega), hd, htk, natBE_be4 _ hc, if_neg (by simp), hF, if_pos hm]
  refine ⟨hE, ?_, ?_⟩
  · unfold decF; rw [if_pos hE, hF]
  · unfold decT
    rw [if_pos hE, hn, ed, mid_take _ _ _ _ 8 (by rw [layL_len]) (be8_len _), natBE_be8 _ ht]
theorem decE_cases (l : List UInt8) : decE l = 0 ∨ decE l = 4 ∨ decE l = 5 ∨ decE l = 11 := by
  unfold decE
  split
  · exact .inr (.inl rfl)
  · split
    · exact .inr (.inr (.inl rfl))
    · split
      · exact .inr (.inr (.inr rfl))
      · split
        · exact .inl rfl
        · exact .inr (.inr (.inl rfl))
theorem decN_take (l : List UInt8) (j : Nat) (h : 23 ≤ j) : decN (l.take j) = decN l := by
  unfold decN
  rw [List.drop_take, List.take_take, Nat.min_eq_left (by omega)]
theorem decN_app (l m : List UInt8) (h : 23 ≤ l.length) : decN (l ++ m) = decN l := by
  unfold decN
  rw [List.drop_append_of_le_length (by omega), List.take_append_of_le_length (by simp; omega)]
theorem dec_cut (l : List UInt8) (hl : l.length = 35 + decN l) (j : Nat) (hj : j < l.length) : decE (l.take j) = 4 := by
  unfold decE
  rw [if_pos]
  rw [List.length_take, Nat.min_eq_left (by omega)]
  by_cases h : j < 35
  · omega
  · rw [decN_take l j (by omega)]; omega
theorem dec_more (l : List UInt8) (hl : l.length = 35 + decN l) (x : UInt8) : decE (l ++ [x]) = 5 := by
  unfold decE
  rw [decN_app l [x] (by omega), List.length_append, List.length_singleton, if_neg (by omega), if_pos (by omega)]
/-- What was decoded is encoded to the same. -/
theorem be4_nat (l : List UInt8) (h : l.length = 4) : be4 (natBE l) = l := by
  have h1 := numBE_natBE 4 l h
  rw [numBE4, Nat.mod_eq_of_lt] at h1
  · exact h1
  · have := natBE_lt l; rwa [h] at this
theorem be8_nat (l : List UInt8) (h : l.length = 8) : be8 (natBE l) = l := by
  have h1 := numBE_natBE 8 l h
  rw [numBE8, Nat.mod_eq_of_lt] at h1
  · exact h1
  · have := natBE_lt l; rwa [h] at this
theorem be2_nat (l : List UInt8) (h : l.length = 2) : be2 (natBE l) = l := by
  have h1 := numBE_natBE 2 l h
  rw [numBE2, Nat.mod_eq_of_lt] at h1
  · exact h1
  · have := natBE_lt l; rwa [h] at this
theorem split_at (l : List UInt8) (a m : Nat) : l.drop a = (l.drop a).take m ++ l.drop (a + m) := by
  rw [← List.drop_drop, List.take_append_drop]
theorem enc_dec (b : List UInt8) (h : decE b = 0) : mayB (decF b) = true ∧ encL (decF b) (decT b) = b := by
  have hF : decF b = frmOf b := if_pos h
  have hT : decT b = natBE ((b.drop (23 + decN b)).take 8) := if_pos h
  unfold decE at h
  split at h
  · cases h
  · rename_i h1
    split at h
    · cases h
    · rename_i h2
      split at h
      · cases h
      · rename_i h3
        split at h
        · rename_i h4
          have hlen : b.length = 35 + decN b := by omega
          have h3 : natBE (b.drop (31 + decN b)) = crcOf (b.take (31 + decN b)) := Classical.not_not.1 h3
          rw [hF, hT]
          refine ⟨h4, ?_⟩
          have hlay : layL (frmOf b) = b.take (23 + decN b) := by
            have hpl : ((b.drop 23).take (decN b)).length = decN b := by rw [List.length_take, List.length_drop]; omega
            have hk : [UInt8.ofNat (natBE (b.take 1))] = b.take 1 := numBE_natBE 1 _ (by simp; omega)
            unfold layL frmOf
            simp only
            rw [hk, hpl, be4_nat _ (by simp; omega), be4_nat _ (by simp; omega), be4_nat _ (by simp; omega), be4_nat _ (by simp; omega), be4_nat _ (by simp; omega)]
            rw [show be2 (decN b) = (b.drop 21).take 2 from be2_nat _ (by simp; omega)]
            simp only [← List.take_add, Nat.reduceAdd]
          have h8 : layL (frmOf b) ++ be8 (natBE ((b.drop (23 + decN b)).take 8)) = b.take (31 + decN b) := by
            rw [hlay, be8_nat _ (by simp; omega), ← List.take_add, show 23 + decN b + 8 = 31 + decN b by omega]
          rw [show encL (frmOf b) (natBE ((b.drop (23 + decN b)).take 8)) = _ from if_pos h4, h8, ← h3, be4_nat _ (by simp; omega), List.take_append_drop]
        · cases h
theorem decE_zero (d : List UInt8) (h : decE d = 0) : d.length = 35 + decN d ∧ natBE (d.drop (31 + decN d)) = crcOf (d.take (31 + decN d)) := by
  unfold decE at h
  split at h
  · cases h
  · split at h
    · cases h
    · split at h
      · cases h
      · rename_i h3
        exact ⟨by omega, Classical.not_not.1 h3⟩
theorem dec_bit (d : List UInt8) (h : decE d = 0) (j : Nat) (hj : j < d.length) (x : UInt8) (hx : x ≠ d[j]) : decE (d.set j x) ≠ 0 := by
  intro hb
  obtain ⟨l1, s1⟩ := decE_zero d h
  obtain ⟨l2, s2⟩ := decE_zero _ hb
  rw [List.length_set] at l2
  have hn : decN (d.set j x) = decN d := by omega
  rw [hn] at s2
  generalize decN d = n at *
  by_cases hjm : j < 31 + n
  · rw [List.drop_set_of_lt hjm, s1] at s2
    rw [List.take_set] at s2
    have hlt : j < (d.take (31 + n)).length := by rw [List.length_take]; omega
    have e1 : d.take (31 + n) = (d.take (31 + n)).take j ++ [d[j]] ++ (d.take (31 + n)).drop (j + 1) := by
      have := List.take_append_drop j (d.take (31 + n))
      rw [List.drop_eq_getElem_cons hlt] at this
      simpa using this.symm
    have e2 : (d.take (31 + n)).set j x = (d.take (31 + n)).take j ++ [x] ++ (d.take (31 + n)).drop (j + 1) := by
      rw [List.set_eq_take_append_cons_drop, if_pos hlt]; simp
    rw [e2] at s2
    conv at s2 => lhs; rw [e1]
    unfold crcOf at s2
    simp only [List.map_append, List.map_cons, List.map_nil] at s2
    have := crc_one _ _ _ _ (by intro c hc; simp only [List.mem_map] at hc; obtain ⟨y, _, rfl⟩ := hc; exact y.toNat_lt) d[j].toNat_lt x.toNat_lt s2
    exact hx (UInt8.toNat_inj.1 this.symm)
  · rw [List.take_set_of_le (by omega), ← s1] at s2
    have e := natBE_inj 4 _ _ (by simp; omega) (by simp; omega) s2
    have h1 := congrArg (fun l => l.getD (j - (31 + n)) 0) e
    simp only [List.getD_eq_getElem?_getD, List.getElem?_drop] at h1
    rw [show 31 + n + (j - (31 + n)) = j by omega] at h1
    rw [List.getElem?_set_self hj, List.getElem?_eq_getElem hj] at h1
    exact hx (by simpa using h1)
end Go.Proofs.YtieipnnpkngegaaDoor
