/- The reader's calls once more: its bytes lie in a block below a bound. -/
import Derived.Test.YtieipnnpkngegaaDoorRd
namespace Go.Proofs.YtieipnnpkngegaaDoor
open Go.RowKit Go.Proofs.YtieipnnpkngegaaDoorW.PrintWords
variable {L : Nat}
/-- A reader at block g. -/
structure IsX (L : Nat) (w : World) (g : Nat) (s : RS) : Prop where
  ex : ∃ A n c, w.heap[g]? = some (.cells #[.slice A n c, .bool s.short] 95 (0, 0)) ∧ n ≤ c ∧ Rd w A n s.l ∧ ∀ ad, A = some ad → ad.block ≠ g ∧ ad.block < L
  nil : s.short = true → s.l = []
/-- What a reader's call leaves. -/
structure XPost (L : Nat) (w : World) (g : Nat) (s : RS) (w' : World) : Prop where
  is : IsX L w' g s
  keeps : Keeps (fun q => q = g) w w'
theorem IsX.lt {w : World} {g : Nat} {s : RS} (h : IsX L w g s) : g < w.heap.size := by
  obtain ⟨A, n, c, hb, _⟩ := h.ex
  exact blk_lt hb
theorem IsX.keptNo {w w1 : World} {g : Nat} {s : RS} (h : IsX L w g s) (k : Keeps No w w1) : IsX L w1 g s := by
  obtain ⟨A, n, c, hb, hn, hr, ha⟩ := h.ex
  exact ⟨⟨A, n, c, k.heap hb (fun h => h), hn, k.rdNo hr, ha⟩, h.nil⟩
theorem IsX.kept {w w1 : World} {g : Nat} {s : RS} {S : Nat → Prop} (h : IsX L w g s) (k : Keeps S w w1) (hg : ¬ S g) (hS : ∀ q, S q → L ≤ q) : IsX L w1 g s := by
  obtain ⟨A, n, c, hb, hn, hr, ha⟩ := h.ex
  refine ⟨⟨A, n, c, k.heap hb hg, hn, k.rd hr ?_, ha⟩, h.nil⟩
  intro ad hA hn hs
  have := (ha ad hA).2
  have := hS _ hs
  omega

set_option maxHeartbeats 800000 in
theorem xnew_any (w : World) (A : Option Addr) (n c : Nat) (l : List UInt8) (hR : Rd w A n l) (hn : n ≤ 140737488355328) :
    Calls Tryd.prog 23 #[.slice A n c] w fun e w' => ∃ g L, e = .returned (.pointer (some ⟨g, 0, none⟩)) ∧ IsX L w' g ⟨l, false⟩ ∧ w.heap.size ≤ g ∧ L ≤ w'.heap.size ∧ Keeps No w w' := by
  have HR := Lib.hid hR
  clear hR
  go_enter Tryd.func23, Tryd.ntmps23
  go_wp2_with fail
  refine (sclone_any _ _ _ _ _ HR.out hn).mono ?_
  rintro e w1 ⟨r, rfl, h1⟩
  obtain ⟨A1, c1, rfl, hc1, hR1⟩ := h1.row.rd
  have H1 := Lib.hid h1
  have HR1 := Lib.hid hR1
  clear h1 hR1
  go_wp2
  go_ret
  refine ⟨_, w1.heap.size, rfl, ⟨⟨A1, l.length, c1, heap_alloc_new w1 _, hc1, ((Keeps.refl No w1).alloc _).rdNo HR1.out, fun ad h => ?_⟩, fun h => by cases h⟩, H1.out.keeps.size, by simp, H1.out.keeps.alloc _⟩
  have := own_lt H1.out.row ad.block (by rw [h]; rfl)
  omega

/-- What Take leaves. -/
def XTEnd (L : Nat) (w : World) (g : Nat) (s : RS) (m : Nat) (x : Ending) (w' : World) : Prop := ∃ r, x = .returned r ∧ Ow w' w.heap.size r (takeO s m) ∧ XPost L w g (takeS s m) w'

set_option maxRecDepth 100000 in
set_option maxHeartbeats 1600000 in
theorem xtake_any (w : World) (g : Nat) (s : RS) (hI : IsX L w g s) (n : Int) (hn : n ≤ 9223372036854775807) (hl : s.l.length ≤ 140737488355328) :
    Calls Tryd.prog 24 #[.pointer (some ⟨g, 0, none⟩), .int .i64 n] w (XTEnd L w g s n.toNat) := by
  have hmx := max_num n
  have hm : n.toNat ≤ 9223372036854775807 := by omega
  obtain ⟨l, short⟩ := s
  have hnil := hI.nil
  obtain ⟨A, k, c, hb, hkc, hr, ha⟩ := hI.ex
  have hkl := hr.1
  simp only at hb hnil hr hl hkl
  have c0 : w.cell? ⟨g, 0, none⟩ = some (.slice A k c) := by rw [blk_cell hb]; rfl
  have c1 : w.cell? ⟨g, 1, none⟩ = some (.bool short) := by rw [blk_cell hb]; rfl
  have f0 := blk_frozen hb 0
  have f1 := blk_frozen hb 1
  have HB := Lib.hid hb
  have HR := Lib.hid hr
  have HA := Lib.hid ha
  have HKL := Lib.hid hkl
  have HI := Lib.hid hI
  have hk2 : k ≤ 140737488355328 := by omega
  generalize n.toNat = m at *
  clear hb hr ha hkl hI hn
  cases short with
  | true =>
    have hl0 := hnil rfl
    subst hl0
    go_enter Tryd.func24, Tryd.ntmps24
    go_wp2
    go_ret
    exact ⟨_, rfl, Ow.nil _ _, HI.out, Keeps.refl _ _⟩
  | false =>
    by_cases hlt : k < m
    · have he : takeS ⟨l, false⟩ m = ⟨[], true⟩ ∧ takeO ⟨l, false⟩ m = [] := by
        have := HKL.out
        constructor
        · simp [takeS]; omega
        · simp [takeO]; omega
      have HE := Lib.hid he
      clear he
      go_enter Tryd.func24, Tryd.ntmps24
      go_wp2
      go_ret
      refine ⟨_, rfl, by rw [HE.out.2]; exact Ow.nil _ _, ?_, Keeps.setCell (S := fun q => q = g) (p := ⟨g, 1, none⟩) (Keeps.setCell (S := fun q => q = g) (p := ⟨g, 0, none⟩) (Keeps.refl _ _) (.inl rfl) _) (.inl rfl) _⟩
      rw [HE.out.1]
      exact ⟨⟨none, 0, 0, by simpa using blk_set (blk_set HB.out 0 (.slice none 0 0)) 1 (.bool true), by omega, Rd.nil _, fun ad h => by cases h⟩, fun _ => rfl⟩
    · have he : takeS ⟨l, false⟩ m = ⟨l.drop m, false⟩ ∧ takeO ⟨l, false⟩ m = l.take m := by
        have := HKL.out
        constructor
        · simp [takeS]; omega
        · simp [takeO]; omega
      have HE := Lib.hid he
      clear he
      go_enter Tryd.func24, Tryd.ntmps24
      go_wp2_with fail
      refine (sclone_any _ _ _ _ _ (HR.out.take m (by omega)) (by omega)).mono ?_
      rintro e w1 ⟨r, rfl, h1⟩
      have H1 := Lib.hid h1
      have HO := Lib.hid (show ∀ X, Ow (w1.setCell ⟨g, 0, none⟩ X) w.heap.size r (l.take m) from fun X => own_setCell h1.row (fun e => by have := own_base h1.row g e.symm; have := blk_lt HB.out; omega) X)
      have hb1 := h1.keeps.heap HB.out (fun h => h)
      have HB1 := Lib.hid hb1
      have d0 : w1.cell? ⟨g, 0, none⟩ = some (.slice A k c) := by rw [blk_cell hb1]; rfl
      have g0 := blk_frozen hb1 0
      clear h1 hb1 c0 c1 f0 f1
      obtain ⟨A', hcut, hA', hAb⟩ := cut_from A k c m (by omega)
      have HA' := Lib.hid hA'
      have HAb := Lib.hid hAb
      have HR2 := Lib.hid (show ∀ X, Rd (w1.setCell ⟨g, 0, none⟩ X) A' (k - m) (l.drop m) from fun X => by
        have h2 := HA'.out w1 l hkc (H1.out.keeps.rdNo HR.out)
        refine ((Keeps.refl (fun q => q = g) w1).setCell (p := ⟨g, 0, none⟩) (.inl rfl) X).rd h2 (fun ad h _ e => ?_)
        obtain ⟨ad0, h0, e0⟩ := HAb.out ad h
        exact (HA.out ad0 h0).1 (e0 ▸ e))
      clear hA' hAb
      go_wp2
      go_ret
      refine ⟨r, rfl, by rw [HE.out.2]; exact HO.out _, ?_, Keeps.setCell (S := fun q => q = g) (p := ⟨g, 0, none⟩) (H1.out.keeps.mono (fun _ h => h.elim)) (.inl rfl) _⟩
      rw [HE.out.1]
      exact ⟨⟨A', k - m, c - m, by simpa using blk_set HB1.out 0 (.slice A' (k - m) (c - m)), by omega, HR2.out _, fun ad h => by obtain ⟨ad0, h0, e⟩ := HAb.out ad h; rw [e]; exact HA.out ad0 h0⟩, fun h => by cases h⟩

/-- What a reading of a number leaves. -/
def XNEnd (L : Nat) (k : IntKind) (w : World) (g : Nat) (s : RS) (m : Nat) (x : Ending) (w' : World) : Prop := x = .returned (.int k (natBE (takeO s m) : Nat)) ∧ XPost L w g (takeS s m) w'

set_option maxRecDepth 100000 in
set_option maxHeartbeats 1600000 in
theorem xrnumber_any (w : World) (g : Nat) (s : RS) (hI : IsX L w g s) (m : Nat) (hm : m ≤ 8) (hl : s.l.length ≤ 140737488355328) :
    Calls Tryd.prog 62 #[.pointer (some ⟨g, 0, none⟩), .int .i64 m] w (XNEnd L .u64 w g s m) := by
  have HI := Lib.hid hI
  clear hI
  go_enter Tryd.func62, Tryd.ntmps62
  go_wp2_with fail
  refine (xtake_any _ _ s HI.out m (by omega) hl).mono ?_
  rintro e w1 ⟨r, rfl, hr, hp⟩
  rw [Int.toNat_natCast] at hr hp
  obtain ⟨A, c, rfl, _, hR⟩ := hr.rd
  have HR := Lib.hid hR
  have HP := Lib.hid hp
  have HL8 := Lib.hid (Nat.le_trans (takeO_len s m) hm)
  generalize hoo : takeO s m = o at *
  have HOO := Lib.hid hoo
  have ho8 : o.length ≤ 8 := HL8.out
  clear hR hp hr hoo
  go_wp2
  go_loop [5, 12] (fun nv iv => ∃ k : Nat, k ≤ o.length ∧ iv = .int .i64 k ∧ nv = .int .u64 (natBE (o.take k) : Nat)) (fun _ iv => o.length - (intOf iv).toNat)
  case atStart => exact ⟨0, by omega, rfl, rfl⟩
  case round =>
    obtain ⟨k, hk, rfl, rfl⟩ := hrel
    by_cases hko : k < o.length
    · obtain ⟨ad, rfl, hc⟩ := HR.out.at k hko
      have hx := natBE_take o k (by omega)
      have hsn : natBE (o.take (k + 1)) = 256 * natBE (o.take k) + (o.getD k 0).toNat := by
        rw [take_snoc o k hko, natBE_snoc, List.getD_eq_getElem?_getD, List.getElem?_eq_getElem hko]; rfl
      have HS := Lib.hid hsn
      clear hsn
      generalize natBE (o.take k) = x at *
      generalize o.getD k 0 = b at *
      have hb := b.toNat_lt
      have HV := Lib.hid (shl8 x hx b)
      go_wp2
      go_round
      case rel => exact ⟨k + 1, by omega, by go_num, congrArg (Value.int .u64) (by rw [HS.out, HV.out])⟩
      case measure => simp [intOf]; omega
    · have ht : o.take k = o := List.take_of_length_le (by omega)
      have HT := Lib.hid ht
      clear ht
      go_wp2
      go_ret
      exact ⟨by rw [HT.out, HOO.out]; rfl, HP.out⟩
set_option maxHeartbeats 800000 in
theorem xrbyte_any (w : World) (g : Nat) (s : RS) (hI : IsX L w g s) (hl : s.l.length ≤ 140737488355328) :
    Calls Tryd.prog 26 #[.pointer (some ⟨g, 0, none⟩)] w (XNEnd L .u8 w g s 1) := by
  have HI := Lib.hid hI
  have hx := natBE_of s 1
  simp only [Nat.reducePow] at hx
  clear hI
  go_enter Tryd.func26, Tryd.ntmps26
  go_wp2_with fail
  refine (xrnumber_any _ _ s HI.out 1 (by omega) hl).mono ?_
  rintro e w1 ⟨rfl, hp⟩
  have HP := Lib.hid hp
  clear hp
  go_wp2
  go_ret
  exact ⟨rfl, HP.out⟩

set_option maxHeartbeats 800000 in
theorem xrtwo_any (w : World) (g : Nat) (s : RS) (hI : IsX L w g s) (hl : s.l.length ≤ 140737488355328) :
    Calls Tryd.prog 28 #[.pointer (some ⟨g, 0, none⟩)] w (XNEnd L .u16 w g s 2) := by
  have HI := Lib.hid hI
  have hx := natBE_of s 2
  simp only [Nat.reducePow] at hx
  clear hI
  go_enter Tryd.func28, Tryd.ntmps28
  go_wp2_with fail
  refine (xrnumber_any _ _ s HI.out 2 (by omega) hl).mono ?_
  rintro e w1 ⟨rfl, hp⟩
  have HP := Lib.hid hp
  clear hp
  go_wp2
  go_ret
  exact ⟨rfl, HP.out⟩

set_option maxHeartbeats 800000 in
theorem xrfour_any (w : World) (g : Nat) (s : RS) (hI : IsX L w g s) (hl : s.l.length ≤ 140737488355328) :
    Calls Tryd.prog 29 #[.pointer (some ⟨g, 0, none⟩)] w (XNEnd L .u32 w g s 4) := by
  have HI := Lib.hid hI
  have hx := natBE_of s 4
  simp only [Nat.reducePow] at hx
  clear hI
  go_enter Tryd.func29, Tryd.ntmps29
  go_wp2_with fail
  refine (xrnumber_any _ _ s HI.out 4 (by omega) hl).mono ?_
  rintro e w1 ⟨rfl, hp⟩
  have HP := Lib.hid hp
  clear hp
  go_wp2
  go_ret
  exact ⟨rfl, HP.out⟩

set_option maxHeartbeats 800000 in
theorem xreight_any (w : World) (g : Nat) (s : RS) (hI : IsX L w g s) (hl : s.l.length ≤ 140737488355328) :
    Calls Tryd.prog 30 #[.pointer (some ⟨g, 0, none⟩)] w (XNEnd L .u64 w g s 8) := by
  have HI := Lib.hid hI
  have hx := natBE_of s 8
  simp only [Nat.reducePow] at hx
  clear hI
  go_enter Tryd.func30, Tryd.ntmps30
  go_wp2_with fail
  refine (xrnumber_any _ _ s HI.out 8 (by omega) hl).mono ?_
  rintro e w1 ⟨rfl, hp⟩
  have HP := Lib.hid hp
  clear hp
  go_wp2
  go_ret
  exact ⟨rfl, HP.out⟩

set_option maxHeartbeats 800000 in
theorem xrtext_any (w : World) (g : Nat) (s : RS) (hI : IsX L w g s) (hl : s.l.length ≤ 140737488355328) :
    Calls Tryd.prog 31 #[.pointer (some ⟨g, 0, none⟩)] w fun e w' => e = .returned (.string ⟨(textO s).toArray⟩) ∧ XPost L w g (textS s) w' := by
  have HI := Lib.hid hI
  have hx := natBE_of s 2
  simp only [Nat.reducePow] at hx
  have hl2 := takeS_len s 2
  have HO := Lib.hid (show takeO (takeS s 2) (natBE (takeO s 2)) = textO s from rfl)
  have HS := Lib.hid (show takeS (takeS s 2) (natBE (takeO s 2)) = textS s from rfl)
  clear hI
  go_enter Tryd.func31, Tryd.ntmps31
  go_wp2_with fail
  refine (xrtwo_any _ _ s HI.out hl).mono ?_
  rintro e w1 ⟨rfl, hp⟩
  have HP := Lib.hid hp
  clear hp
  generalize natBE (takeO s 2) = q at *
  generalize takeS s 2 = s2 at *
  go_wp2_with fail
  refine (xtake_any _ _ s2 HP.out.is _ (by omega) (by omega)).mono ?_
  rintro e w2 ⟨r, rfl, hr, hp2⟩
  rw [Int.toNat_natCast] at hr hp2
  rw [HO.out] at hr
  rw [HS.out] at hp2
  obtain ⟨A, c, rfl, _, hR⟩ := hr.rd
  have hcv := rd_string (P := Tryd.prog) Tryd.underlying22 Tryd.underlying5 Tryd.underlying9 hR c
  have HP2 := Lib.hid hp2
  clear hp2 hr hR
  go_wp2
  go_ret
  exact ⟨rfl, HP2.out.is, HP.out.keeps.trans HP2.out.keeps (fun i hi => .inl hi)⟩

set_option maxHeartbeats 800000 in
theorem xrleft_any (w : World) (g : Nat) (s : RS) (hI : IsX L w g s) :
    Calls Tryd.prog 35 #[.pointer (some ⟨g, 0, none⟩)] w fun e w' => e = .returned (.int .i64 s.l.length) ∧ w = w' := by
  obtain ⟨A, k, c, hb, hkc, hr, ha⟩ := hI.ex
  have hkl : s.l.length = k := hr.1
  have c0 : w.cell? ⟨g, 0, none⟩ = some (.slice A k c) := by rw [blk_cell hb]; rfl
  have HKL := Lib.hid hkl
  clear hb hr ha hkl hI
  go_enter Tryd.func35, Tryd.ntmps35
  go_wp2
  go_ret
  exact ⟨by rw [HKL.out]; rfl, rfl⟩
set_option maxHeartbeats 800000 in
theorem xrerr_any (w : World) (g : Nat) (s : RS) (hI : IsX L w g s) :
    Calls Tryd.prog 36 #[.pointer (some ⟨g, 0, none⟩)] w fun e w' => e = .returned (.int .i64 (errOf s)) ∧ w = w' := by
  obtain ⟨A, k, c, hb, hkc, hr, ha⟩ := hI.ex
  have c1 : w.cell? ⟨g, 1, none⟩ = some (.bool s.short) := by rw [blk_cell hb]; rfl
  have HE := Lib.hid (show errOf s = if s.short = true then 4 else 0 from rfl)
  clear hb hr ha hI
  obtain ⟨l, short⟩ := s
  cases short <;>
  · go_enter Tryd.func36, Tryd.ntmps36
    go_wp2
    go_ret
    exact ⟨rfl, rfl⟩
end Go.Proofs.YtieipnnpkngegaaDoor
