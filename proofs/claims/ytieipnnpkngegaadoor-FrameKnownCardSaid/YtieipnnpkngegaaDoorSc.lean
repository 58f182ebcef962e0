/- Clones, equality, the check: what each answers. -/
import Derived.Test.YtieipnnpkngegaaDoorWr
import Derived.Test.YtieipnnpkngegaaDoorCrc
namespace Go.Proofs.YtieipnnpkngegaaDoor
open Go.RowKit Go.Proofs.YtieipnnpkngegaaDoorW.PrintWords

/-- What a clone leaves. -/
structure CPost (w : World) (l : List UInt8) (w' : World) (r : Value) : Prop where
  row : Ow w' w.heap.size r l
  keeps : Keeps No w w'
theorem CPost.before {w w0 : World} {l : List UInt8} {w' : World} {r : Value} (k : Keeps No w w0) (h : CPost w0 l w' r) : CPost w l w' r := ⟨own_less h.row k.size, k.then h.keeps⟩
def CEnd (w : World) (l : List UInt8) (x : Ending) (w' : World) : Prop := ∃ r, x = .returned r ∧ CPost w l w' r

set_option maxHeartbeats 800000 in
theorem sclone_any (w : World) (A : Option Addr) (n c : Nat) (l : List UInt8) (hR : Rd w A n l) (hn : n ≤ 140737488355328) : Calls Tryd.prog 55 #[.slice A n c] w (CEnd w l) := by
  have qT : ∀ (w : World) (a : Option Addr) (n c n' c' : Nat), (binOp .eql 22 (.slice a n c) (.slice none n' c')).run Tryd.prog w = .ok (.bool a.isNone) w := fun w a n c n' c' => Lib.run_eql_slice_nil w _ _ a n c n' c' Tryd.underlying22
  cases A with
  | none =>
    have h0 : n = 0 := by
      rcases Nat.eq_zero_or_pos n with h | h
      · exact h
      · obtain ⟨_, h', _⟩ := hR.2.2 h; cases h'
    subst h0
    obtain rfl : l = [] := List.eq_nil_of_length_eq_zero hR.1
    go_enter Tryd.func55, Tryd.ntmps55
    go_wp2
    go_ret
    exact ⟨_, rfl, Ow.nil _ _, Keeps.refl _ _⟩
  | some ad =>
    have HR := Lib.hid hR; clear hR
    have HK := Lib.hid ((Keeps.refl No w).alloc (.cells #[] 5))
    have HO := Lib.hid (own_lit_of (enc := B8) w w.heap.size 5 [] (Nat.le_refl _) (by simp))
    go_enter Tryd.func55, Tryd.ntmps55
    go_wp2_with (at_builtin; refine print_append_row_of B8 0 w.heap.size rfl (.tmp 5) (.tmp 6) 22 5 (.int .u8 0) 1 rfl Tryd.underlying22 Tryd.info5 rfl (by decide) B8_one (.slice (some ⟨w.heap.size, 0, none⟩) 0 0) [] l (some ad) n c rfl rfl (HO.out) (HK.out.rdNo HR.out) (Below.refl _ _) (by simp) (by simpa using hn) ?_; intro v1 w1 hown hB hgr hat0; have HO1 := Lib.hid hown; clear hown hat0; obtain ⟨A1, k1, rfl⟩ := own_slice HO1.out)
    go_ret
    exact ⟨_, rfl, HO1.out, HK.out.grown hgr (fun k hk => .inr (by have : w.heap.size = k := Option.some.inj hk; omega))⟩
set_option maxHeartbeats 800000 in
theorem bclone_any (w : World) (A : Option Addr) (n c : Nat) (l : List UInt8) (hR : Rd w A n l) (hn : n ≤ 140737488355328) : Calls Tryd.prog 22 #[.slice A n c] w (CEnd w l) := by
  have qT : ∀ (w : World) (a : Option Addr) (n c n' c' : Nat), (binOp .eql 22 (.slice a n c) (.slice none n' c')).run Tryd.prog w = .ok (.bool a.isNone) w := fun w a n c n' c' => Lib.run_eql_slice_nil w _ _ a n c n' c' Tryd.underlying22
  cases A with
  | none =>
    have h0 : n = 0 := by
      rcases Nat.eq_zero_or_pos n with h | h
      · exact h
      · obtain ⟨_, h', _⟩ := hR.2.2 h; cases h'
    subst h0
    obtain rfl : l = [] := List.eq_nil_of_length_eq_zero hR.1
    go_enter Tryd.func22, Tryd.ntmps22
    go_wp2
    go_ret
    exact ⟨_, rfl, Ow.nil _ _, Keeps.refl _ _⟩
  | some ad =>
    have HR := Lib.hid hR; clear hR
    have HK := Lib.hid ((Keeps.refl No w).alloc (.cells #[] 5))
    have HO := Lib.hid (own_lit_of (enc := B8) w w.heap.size 5 [] (Nat.le_refl _) (by simp))
    go_enter Tryd.func22, Tryd.ntmps22
    go_wp2_with (at_builtin; refine print_append_row_of B8 0 w.heap.size rfl (.tmp 5) (.tmp 6) 22 5 (.int .u8 0) 1 rfl Tryd.underlying22 Tryd.info5 rfl (by decide) B8_one (.slice (some ⟨w.heap.size, 0, none⟩) 0 0) [] l (some ad) n c rfl rfl (HO.out) (HK.out.rdNo HR.out) (Below.refl _ _) (by simp) (by simpa using hn) ?_; intro v1 w1 hown hB hgr hat0; have HO1 := Lib.hid hown; clear hown hat0; obtain ⟨A1, k1, rfl⟩ := own_slice HO1.out)
    go_ret
    exact ⟨_, rfl, HO1.out, HK.out.grown hgr (fun k hk => .inr (by have : w.heap.size = k := Option.some.inj hk; omega))⟩

set_option maxHeartbeats 800000 in
theorem bequal_any (w : World) (A A' : Option Addr) (n n' c c' : Nat) (l l' : List UInt8) (hR : Rd w A n l) (hR' : Rd w A' n' l') :
    Calls Tryd.prog 21 #[.slice A n c, .slice A' n' c'] w fun e w' => e = .returned (.bool (l == l')) ∧ w = w' := by
  have k1 := rd_string (P := Tryd.prog) Tryd.underlying22 Tryd.underlying5 Tryd.underlying9 hR c
  have k2 := rd_string (P := Tryd.prog) Tryd.underlying22 Tryd.underlying5 Tryd.underlying9 hR' c'
  go_enter Tryd.func21, Tryd.ntmps21
  go_wp2
  go_ret
  exact ⟨rfl, rfl⟩

/-- The table of the check. -/
def Tabb (w : World) : Prop := ∀ j, j < 16 → w.cell? ⟨1, j, none⟩ = some (.int .u32 (CrcPlain.tab.getD j 0 : Nat))
theorem Tabb.kept {S : Nat → Prop} {w w1 : World} (h : Tabb w) (hk : Keeps S w w1) (hS : ¬ S 1) : Tabb w1 := fun j hj => hk.cell (h j hj) hS
theorem tab_lt : ∀ j, j < 16 → CrcPlain.tab.getD j 0 < 4294967296 := by decide
theorem bits_and15 (n : Nat) (hn : n < 4294967296) : bits .and .u32 (n : Int) 15 = ((n % 16 : Nat) : Int) := by
  have h := u32_and_nat n 15 hn (by omega)
  have h2 := Nat.and_two_pow_sub_one_eq_mod n 4
  simp only [Nat.reducePow, Nat.add_one_sub_one] at h2
  rw [h2] at h
  exact h

set_option maxHeartbeats 800000 in
theorem half_any (n : Nat) (w : World) (hn : n < 4294967296) (hT : Tabb w) :
    Calls Tryd.prog 56 #[.int .u32 n] w fun e w' => e = .returned (.int .u32 (CrcPlain.step4 n : Nat)) ∧ w = w' := by
  have h15 := bits_and15 n hn
  have hc := hT (n % 16) (by omega)
  have h0 : (0 : Int) ≤ ((n % 16 : Nat) : Int) := by omega
  have h1 : ((n % 16 : Nat) : Int) < 16 := by omega
  have hx := u32_xor_nat (n / 16) (CrcPlain.tab.getD (n % 16) 0) (by omega) (tab_lt _ (by omega))
  have hh : n / 16 ^^^ CrcPlain.tab.getD (n % 16) 0 = CrcPlain.step4 n := CrcPlain.half_eq n
  rw [hh] at hx
  have HX := Lib.hid hx
  clear hx hh hT
  go_enter Tryd.func56, Tryd.ntmps56
  go_wp2
  go_ret
  exact ⟨ret_eq (congrArg (Value.int .u32) (by simpa using HX.out)), rfl⟩

theorem crc_lt (r : Nat) (c : UInt8) (hr : r < 4294967296) : r ^^^ c.toNat < 4294967296 := CrcPlain.lt_xor (k := 32) hr (by have := c.toNat_lt; omega)
/-- The check of bytes, as plain Lean has it. -/
def crcOf (l : List UInt8) : Nat := CrcPlain.crc (l.map UInt8.toNat)
def regOf (l : List UInt8) : Nat := CrcPlain.reg 4294967295 (l.map UInt8.toNat)
theorem regOf_lt (l : List UInt8) : regOf l < 4294967296 := CrcPlain.reg_lt _ (by intro c hc; simp only [List.mem_map] at hc; obtain ⟨d, _, rfl⟩ := hc; exact d.toNat_lt) _ (by decide)
theorem regOf_snoc (l : List UInt8) (c : UInt8) : regOf (l ++ [c]) = CrcPlain.step8 (regOf l ^^^ c.toNat) := by
  unfold regOf
  rw [List.map_append, CrcPlain.reg_append]; rfl
theorem crcOf_eq (l : List UInt8) : crcOf l = 4294967295 ^^^ regOf l := rfl
theorem take_snoc {α : Type} (l : List α) (k : Nat) (h : k < l.length) : l.take (k + 1) = l.take k ++ [l[k]] := List.take_succ_eq_append_getElem h

set_option maxHeartbeats 1600000 in
theorem crc_any (w : World) (A : Option Addr) (n c : Nat) (l : List UInt8) (hR : Rd w A n l) (hT : Tabb w) :
    Calls Tryd.prog 14 #[.slice A n c] w fun e w' => e = .returned (.int .u32 (crcOf l : Nat)) ∧ w = w' := by
  have hn : n ≤ 9223372036854775807 := hR.2.1
  have hlen : l.length = n := hR.1
  have HL := Lib.hid hlen
  clear hlen
  go_enter Tryd.func14, Tryd.ntmps14
  go_wp2
  go_loop [3, 8] (fun r i => ∃ k : Nat, k ≤ n ∧ i = .int .i64 k ∧ r = .int .u32 (regOf (l.take k) : Nat)) (fun _ i => n - (intOf i).toNat)
  case atStart => exact ⟨0, Nat.zero_le _, rfl, rfl⟩
  case round =>
    obtain ⟨k, hk, rfl, rfl⟩ := hrel
    by_cases hlt : k < n
    · obtain ⟨ad, rfl, hc⟩ := hR.at k hlt
      have hkl : k < l.length := by have := HL.out; omega
      have hreg := regOf_lt (l.take k)
      have hsn : regOf (l.take (k + 1)) = CrcPlain.step8 (regOf (l.take k) ^^^ (l.getD k 0).toNat) := by
        rw [take_snoc l k hkl, regOf_snoc, List.getD_eq_getElem?_getD, List.getElem?_eq_getElem hkl]; rfl
      have HS := Lib.hid hsn
      clear hsn
      generalize regOf (l.take k) = r at *
      generalize l.getD k 0 = b at *
      have hx := u32_xor_nat r b.toNat hreg (by have := b.toNat_lt; omega)
      have hlx := crc_lt r b hreg
      have hb := b.toNat_lt
      have hl4 : CrcPlain.step4 (r ^^^ b.toNat) < 4294967296 := CrcPlain.step4_lt (n := r ^^^ b.toNat) hlx
      go_wp2_with fail
      refine (half_any _ _ hlx hT).mono ?_
      rintro e w1 ⟨rfl, rfl⟩
      go_wp2_with fail
      refine (half_any _ _ hl4 hT).mono ?_
      rintro e w1 ⟨rfl, rfl⟩
      go_wp2
      go_round
      case rel => exact ⟨k + 1, by omega, by go_num, by rw [HS.out]; rfl⟩
      case measure => simp [intOf]; omega
    · have hx := u32_xor_nat 4294967295 (regOf (l.take k)) (by omega) (regOf_lt _)
      have ht : l.take k = l := List.take_of_length_le (by have := HL.out; omega)
      rw [ht] at hx
      have HX := Lib.hid hx
      have HT := Lib.hid ht
      clear hx ht
      go_wp2
      go_ret
      exact ⟨ret_eq (congrArg (Value.int .u32) (by rw [HT.out]; exact HX.out)), rfl⟩

theorem xor_all (n : Nat) (h : n < 4294967296) : 4294967295 - n = 4294967295 ^^^ n := by
  have h1 := CrcPlain.add_xor 0 0 0 (by omega)
  apply Nat.eq_of_testBit_eq
  intro i
  rw [show 4294967295 - n = 2 ^ 32 - (n + 1) by omega, Nat.testBit_two_pow_sub_succ (by omega), Nat.testBit_xor, show (4294967295 : Nat) = 2 ^ 32 - 1 by omega, Nat.testBit_two_pow_sub_one]
  by_cases hi : i < 32
  · simp [hi]
  · have : n.testBit i = false := Nat.testBit_lt_two_pow (Nat.lt_of_lt_of_le (show n < 2 ^ 32 by omega) (Nat.pow_le_pow_right (by omega) (by omega)))
    simp [hi, this]
def stepN : Nat → Nat → Nat
  | 0, n => n
  | k + 1, n => CrcPlain.step (stepN k n)
theorem stepN_lt (k n : Nat) (h : n < 4294967296) : stepN k n < 4294967296 := by
  induction k with
  | zero => exact h
  | succ k ih => exact CrcPlain.step_lt (n := stepN k n) ih
theorem poly_eq : CrcPlain.poly = 3988292384 := rfl
set_option maxHeartbeats 1600000 in
theorem refcrc_any (w : World) (A : Option Addr) (n c : Nat) (l : List UInt8) (hR : Rd w A n l) :
    Calls Tryd.prog 15 #[.slice A n c] w fun e w' => e = .returned (.int .u32 (crcOf l : Nat)) ∧ w = w' := by
  have hn : n ≤ 9223372036854775807 := hR.2.1
  have hlen : l.length = n := hR.1
  have HL := Lib.hid hlen
  clear hlen
  go_enter Tryd.func15, Tryd.ntmps15
  go_wp2
  go_loop [3, 4] (fun r i => ∃ k : Nat, k ≤ n ∧ i = .int .i64 k ∧ r = .int .u32 (regOf (l.take k) : Nat)) (fun _ i => n - (intOf i).toNat)
  case atStart => exact ⟨0, Nat.zero_le _, rfl, rfl⟩
  case round =>
    obtain ⟨k, hk, rfl, rfl⟩ := hrel
    by_cases hlt : k < n
    · obtain ⟨ad, rfl, hc⟩ := hR.at k hlt
      have hkl : k < l.length := by have := HL.out; omega
      have hreg := regOf_lt (l.take k)
      have hsn : regOf (l.take (k + 1)) = CrcPlain.step8 (regOf (l.take k) ^^^ (l.getD k 0).toNat) := by
        rw [take_snoc l k hkl, regOf_snoc, List.getD_eq_getElem?_getD, List.getElem?_eq_getElem hkl]; rfl
      have HS := Lib.hid hsn
      clear hsn
      generalize regOf (l.take k) = r at *
      generalize l.getD k 0 = b at *
      have hx := u32_xor_nat r b.toNat hreg (by have := b.toNat_lt; omega)
      have hlx := crc_lt r b hreg
      have hb := b.toNat_lt
      go_wp2
      generalize r ^^^ b.toNat = x at *
      go_loop [3, 5] (fun r i => ∃ j : Nat, j ≤ 8 ∧ i = .int .i64 j ∧ r = .int .u32 (stepN j x : Nat)) (fun _ i => 8 - (intOf i).toNat)
      case atStart => exact ⟨0, Nat.zero_le _, rfl, rfl⟩
      case round =>
        obtain ⟨j, hj, rfl, rfl⟩ := hrel
        have hy := stepN_lt j x hlx
        have hsn : stepN (j + 1) x = CrcPlain.bitStep (stepN j x) := (CrcPlain.bitStep_eq _).symm
        have H2 := Lib.hid hsn
        have H3 := Lib.hid (show stepN 8 x = CrcPlain.step8 x from rfl)
        clear hsn
        by_cases hj8 : j < 8
        · generalize stepN j x = y at *
          have hx2 := u32_xor_nat (y / 2) 3988292384 (by omega) (by omega)
          have H4 := Lib.hid hx2
          clear hx2
          by_cases hodd : y % 2 = 1
          · have ho : (((y : Int) % 2) == 1) = true := by rw [beq_iff_eq]; omega
            have H5 := Lib.hid hodd
            clear hodd
            go_wp2
            go_round
            case rel =>
              refine ⟨j + 1, by omega, by go_num, congrArg (Value.int .u32) ?_⟩
              rw [H2.out, CrcPlain.bitStep, if_pos H5.out, poly_eq, ← H4.out]
              rfl
            case measure => simp [intOf]; omega
          · have ho : (((y : Int) % 2) == 1) = false := by rw [beq_eq_false_iff_ne]; omega
            have H5 := Lib.hid hodd
            clear hodd
            go_wp2
            go_round
            case rel =>
              refine ⟨j + 1, by omega, by go_num, congrArg (Value.int .u32) ?_⟩
              rw [H2.out, CrcPlain.bitStep, if_neg H5.out]
              rfl
            case measure => simp [intOf]; omega
        · obtain rfl : j = 8 := by omega
          go_wp2
          go_round
          case rel => exact ⟨k + 1, by omega, by go_num, congrArg (Value.int .u32) (by rw [HS.out, H3.out])⟩
          case measure => simp [intOf]; omega
    · have ht : l.take k = l := List.take_of_length_le (by have := HL.out; omega)
      have hr := regOf_lt l
      have HT := Lib.hid ht
      clear ht
      go_wp2
      go_ret
      refine ⟨ret_eq (congrArg (Value.int .u32) ?_), rfl⟩
      have h1 := xor_all _ hr
      rw [HT.out, crcOf_eq, ← h1]
      omega
end Go.Proofs.YtieipnnpkngegaaDoor
