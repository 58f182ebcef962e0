/- The document's reader: what its calls answer and leave. -/
import Derived.Test.YtieipnnpkngegaaDoorRd
namespace Go.Proofs.YtieipnnpkngegaaDoor
open Go.RowKit Go.Proofs.YtieipnnpkngegaaDoorW.PrintWords

structure IsF (w : World) (g : Nat) (s : RS) : Prop where
  ex : ∃ A n c, ∃ B : List UInt8, ∃ a : Nat, w.heap[g]? = some (.cells #[.slice A n c, .int .i64 a, .bool s.short] 49 (0, 0)) ∧ n ≤ c ∧ Rd w A n B ∧ (∀ ad, A = some ad → 0 < n → ad.block ≠ g) ∧ a ≤ n ∧ n ≤ 140737488355328 ∧ (s.short = false → s.l = B.drop a)
  nil : s.short = true → s.l = []
structure FPost (w : World) (g : Nat) (s : RS) (w' : World) : Prop where
  is : IsF w' g s
  keeps : Keeps (fun q => q = g) w w'
theorem IsF.lt {w : World} {g : Nat} {s : RS} (h : IsF w g s) : g < w.heap.size := by
  obtain ⟨A, n, c, B, a, hb, _⟩ := h.ex
  exact blk_lt hb
theorem IsF.kept {w w1 : World} {g : Nat} {s : RS} {S : Nat → Prop} (h : IsF w g s) (k : Keeps S w w1) (hg : ¬ S g) (hS : ∀ q, S q → w.heap.size ≤ q ∨ ∃ cs t, w.heap[q]? = some (.cells cs t (0, 0)) ∧ ∀ (j : Nat) (c : Int), cs[j]? ≠ some (Value.int .u8 c)) : IsF w1 g s := by
  obtain ⟨A, n, c, B, a, hb, hn, hr, ha, hx⟩ := h.ex
  refine ⟨⟨A, n, c, B, a, k.heap hb hg, hn, k.rd hr ?_, ha, hx⟩, h.nil⟩
  intro ad hA hn hs
  obtain ⟨ad', hA', hc⟩ := hr.2.2 hn
  rw [hA] at hA'
  injection hA' with hA'
  subst hA'
  have h0 := hc 0 hn
  have e0 : ad.add 0 = ad := by simp [Addr.add]
  rw [e0] at h0
  rcases hS _ hs with hsz | ⟨cs, t, hq, hno⟩
  · have := World.block_lt_of_cell? w _ h0; omega
  unfold World.cell? at h0
  rw [hq] at h0
  simp only at h0
  split at h0
  · cases h0
  · exact hno _ _ h0
theorem IsF.keptNo {w w1 : World} {g : Nat} {s : RS} (h : IsF w g s) (k : Keeps No w w1) : IsF w1 g s := h.kept k (fun h => h) (fun _ h => h.elim)
/-- What its Take leaves. -/
def FTEnd (w : World) (g : Nat) (s : RS) (m : Nat) (x : Ending) (w' : World) : Prop := ∃ A n c, x = .returned (.slice A n c) ∧ Rd w' A n (takeO s m) ∧ FPost w g (takeS s m) w'
theorem mid_cut (A : Option Addr) (n c lo m : Nat) (h : lo + m ≤ n) (hc : n ≤ c) :
    ∃ A' : Option Addr, (∀ W : World, (Instr.slice 22 (.slice A n c) (some (.int .i64 (lo : Int))) (some (.int .i64 ((lo : Int) + m))) none).run Tryd.prog W = .ok (.slice A' m (c - lo)) W) ∧
      (∀ (w : World) (l : List UInt8), Rd w A n l → Rd w A' m ((l.drop lo).take m)) := by
  obtain ⟨i0, hi, _, hsz, _⟩ := info_parts Tryd.info5
  refine ⟨if c = lo then A else A.map (·.add lo), fun W => ?_, fun w l hr => (hr.drop lo (by omega) hc).take m (by omega)⟩
  have h1 := cut_mid (P := Tryd.prog) 22 5 .i64 .i64 Tryd.underlying22 hi 1 hsz A n c (lo : Int) ((lo : Int) + m) (by omega) (by omega) (by omega) hc W
  rw [h1]
  simp only [Int.toNat_natCast, Nat.mul_one]
  rw [show ((lo : Int) + m).toNat - lo = m by omega]

set_option maxRecDepth 100000 in
set_option maxHeartbeats 3200000 in
theorem ftake_nat (w : World) (g : Nat) (s : RS) (hI : IsF w g s) (m : Nat) (hm : m ≤ 9223372036854775807) :
    Calls Tryd.prog 25 #[.pointer (some ⟨g, 0, none⟩), .int .i64 m] w (FTEnd w g s m) := by
  obtain ⟨l, short⟩ := s
  have hnil := hI.nil
  obtain ⟨A, k, c, B, a, hb, hkc, hr, ha, hak, hk2, hl⟩ := hI.ex
  have hkl := hr.1
  simp only at hb hnil hr hkl hl
  have c0 : w.cell? ⟨g, 0, none⟩ = some (.slice A k c) := by rw [blk_cell hb]; rfl
  have c1 : w.cell? ⟨g, 1, none⟩ = some (.int .i64 a) := by rw [blk_cell hb]; rfl
  have c2 : w.cell? ⟨g, 2, none⟩ = some (.bool short) := by rw [blk_cell hb]; rfl
  have f1 := blk_frozen hb 1
  have f2 := blk_frozen hb 2
  have HB := Lib.hid hb
  have HR := Lib.hid hr
  have HA := Lib.hid ha
  have HKL := Lib.hid hkl
  have HI := Lib.hid hI
  have HLL := Lib.hid hl
  clear hb hr ha hkl hI hl
  cases short with
  | true =>
    have hl0 := hnil rfl
    subst hl0
    have hw : (w.setCell ⟨g, 2, none⟩ (.bool true)).heap[g]? = some (.cells #[.slice A k c, .int .i64 a, .bool true] 49 (0, 0)) := by simpa using blk_set HB.out 2 (.bool true)
    have HW := Lib.hid hw
    clear hw
    go_enter Tryd.func25, Tryd.ntmps25
    go_wp2
    go_quiet (fail)
    go_wp2
    go_ret
    refine ⟨_, _, _, rfl, Rd.nil _, ⟨⟨A, k, c, B, a, HW.out, hkc, ?_, HA.out, hak, hk2, fun h => by cases h⟩, fun _ => rfl⟩, ?_⟩
    · exact (Keeps.setCell (S := fun q => q = g) (p := ⟨g, 2, none⟩) (Keeps.refl _ w) (.inl rfl) (.bool true)).rd HR.out (fun ad h hn e => HA.out ad h hn e)
    · exact Keeps.setCell (S := fun q => q = g) (p := ⟨g, 2, none⟩) ((Keeps.refl _ w).drewN nq) (.inl rfl) _
  | false =>
    by_cases hlt : k - a < m
    · have hd : ((k : Int) - (a : Int) < (m : Int)) := by omega
      have he : takeS ⟨l, false⟩ m = ⟨[], true⟩ ∧ takeO ⟨l, false⟩ m = [] := by
        have h1 := HKL.out
        have h2 := HLL.out rfl
        subst h2
        constructor
        · simp [takeS]; omega
        · simp [takeO]; omega
      have HE := Lib.hid he
      have hw : (w.setCell ⟨g, 2, none⟩ (.bool true)).heap[g]? = some (.cells #[.slice A k c, .int .i64 a, .bool true] 49 (0, 0)) := by simpa using blk_set HB.out 2 (.bool true)
      have HW := Lib.hid hw
      clear hw he
      go_enter Tryd.func25, Tryd.ntmps25
      go_wp2
      go_quiet (fail)
      go_wp2
      go_ret
      refine ⟨_, _, _, rfl, by rw [HE.out.2]; exact Rd.nil _, ?_, Keeps.setCell (S := fun q => q = g) (p := ⟨g, 2, none⟩) ((Keeps.refl _ w).drewN nq) (.inl rfl) _⟩
      rw [HE.out.1]
      refine ⟨⟨A, k, c, B, a, HW.out, hkc, ?_, HA.out, hak, hk2, fun h => by cases h⟩, fun _ => rfl⟩
      exact (Keeps.setCell (S := fun q => q = g) (p := ⟨g, 2, none⟩) (Keeps.refl _ w) (.inl rfl) (.bool true)).rd HR.out (fun ad h hn e => HA.out ad h hn e)
    · have hd : ¬ ((k : Int) - (a : Int) < (m : Int)) := by omega
      obtain ⟨A', hcut, hA'⟩ := mid_cut A k c a m (by omega) hkc
      have hw1 : IntKind.i64.wrap ((a : Int) + (m : Int) - (m : Int)) = (a : Int) := by rw [IntKind.wrap_i64]; omega
      have he : takeS ⟨l, false⟩ m = ⟨B.drop (a + m), false⟩ ∧ takeO ⟨l, false⟩ m = (B.drop a).take m := by
        have h1 := HKL.out
        have h2 := HLL.out rfl
        subst h2
        constructor
        · simp [takeS]; omega
        · simp [takeO]; omega
      have HE := Lib.hid he
      have hw : (w.setCell ⟨g, 1, none⟩ (.int .i64 ((a : Int) + m))).heap[g]? = some (.cells #[.slice A k c, .int .i64 ((a + m : Nat) : Int), .bool false] 49 (0, 0)) := by simpa using blk_set HB.out 1 (.int .i64 ((a : Int) + m))
      have HW := Lib.hid hw
      have hd2 : a + m ≤ k := by omega
      have HA' := Lib.hid hA'
      clear hw he hA'
      go_enter Tryd.func25, Tryd.ntmps25
      go_wp2
      go_quiet (fail)
      go_wp2
      go_quiet (fail)
      go_wp2
      go_ret
      have k1 : Keeps (fun q => q = g) w (w.setCell ⟨g, 1, none⟩ (.int .i64 ((a : Int) + m))) := Keeps.setCell (S := fun q => q = g) (p := ⟨g, 1, none⟩) (Keeps.refl _ w) (.inl rfl) _
      have r1 := k1.rd HR.out (fun ad h hn e => HA.out ad h hn e)
      refine ⟨_, _, _, rfl, by rw [HE.out.2]; exact HA'.out _ _ r1, ?_, (Keeps.setCell (S := fun q => q = g) (p := ⟨g, 1, none⟩) ((Keeps.refl _ w).drewN _) (.inl rfl) _).drewN nq⟩
      rw [HE.out.1]
      exact ⟨⟨A, k, c, B, a + m, HW.out, hkc, r1, HA.out, hd2, hk2, fun _ => rfl⟩, fun h => by cases h⟩

set_option maxRecDepth 100000 in
set_option maxHeartbeats 3200000 in
theorem ftake_neg (w : World) (g : Nat) (s : RS) (hI : IsF w g s) (n : Int) (hneg : n < 0) :
    Calls Tryd.prog 25 #[.pointer (some ⟨g, 0, none⟩), .int .i64 n] w (FTEnd w g s 0) := by
  obtain ⟨l, short⟩ := s
  have hnil := hI.nil
  obtain ⟨A, k, c, B, a, hb, hkc, hr, ha, hak, hk2, hl⟩ := hI.ex
  simp only at hb hnil hr hl
  have c0 : w.cell? ⟨g, 0, none⟩ = some (.slice A k c) := by rw [blk_cell hb]; rfl
  have c1 : w.cell? ⟨g, 1, none⟩ = some (.int .i64 a) := by rw [blk_cell hb]; rfl
  have c2 : w.cell? ⟨g, 2, none⟩ = some (.bool short) := by rw [blk_cell hb]; rfl
  have f1 := blk_frozen hb 1
  have f2 := blk_frozen hb 2
  have HB := Lib.hid hb
  have HR := Lib.hid hr
  have HA := Lib.hid ha
  have HLL := Lib.hid hl
  clear hb hr ha hI hl
  cases short with
  | true =>
    have hl0 := hnil rfl
    subst hl0
    have hw : (w.setCell ⟨g, 2, none⟩ (.bool true)).heap[g]? = some (.cells #[.slice A k c, .int .i64 a, .bool true] 49 (0, 0)) := by simpa using blk_set HB.out 2 (.bool true)
    have HW := Lib.hid hw
    clear hw
    go_enter Tryd.func25, Tryd.ntmps25
    go_wp2
    go_quiet (fail)
    go_wp2
    go_ret
    refine ⟨_, _, _, rfl, Rd.nil _, ⟨⟨A, k, c, B, a, HW.out, hkc, ?_, HA.out, hak, hk2, fun h => by cases h⟩, fun _ => rfl⟩, ?_⟩
    · exact (Keeps.setCell (S := fun q => q = g) (p := ⟨g, 2, none⟩) (Keeps.refl _ w) (.inl rfl) (.bool true)).rd HR.out (fun ad h hn e => HA.out ad h hn e)
    · exact Keeps.setCell (S := fun q => q = g) (p := ⟨g, 2, none⟩) ((Keeps.refl _ w).drewN nq) (.inl rfl) _
  | false =>
    have hd : ¬ ((k : Int) - (a : Int) < 0) := by omega
    obtain ⟨A', hcut, hA'⟩ := mid_cut A k c a 0 (by omega) hkc
    simp only [show ((a : Int) + ((0 : Nat) : Int)) = (a : Int) from by omega] at hcut
    have hw1 : IntKind.i64.wrap (a : Int) = (a : Int) := by rw [IntKind.wrap_i64]; omega
    have he : takeS ⟨l, false⟩ 0 = ⟨B.drop a, false⟩ ∧ takeO ⟨l, false⟩ 0 = (B.drop a).take 0 := by
      have h2 := HLL.out rfl
      subst h2
      constructor
      · simp [takeS]
      · simp [takeO]
    have HE := Lib.hid he
    have hw : (w.setCell ⟨g, 1, none⟩ (.int .i64 (a : Int))).heap[g]? = some (.cells #[.slice A k c, .int .i64 (a : Int), .bool false] 49 (0, 0)) := by simpa using blk_set HB.out 1 (.int .i64 (a : Int))
    have HW := Lib.hid hw
    have HA' := Lib.hid hA'
    clear hw he hA'
    go_enter Tryd.func25, Tryd.ntmps25
    go_wp2
    go_quiet (fail)
    go_wp2
    go_quiet (fail)
    go_wp2
    go_ret
    have k1 : Keeps (fun q => q = g) w (w.setCell ⟨g, 1, none⟩ (.int .i64 (a : Int))) := Keeps.setCell (S := fun q => q = g) (p := ⟨g, 1, none⟩) (Keeps.refl _ w) (.inl rfl) _
    have r1 := k1.rd HR.out (fun ad h hn e => HA.out ad h hn e)
    refine ⟨_, _, _, rfl, by rw [HE.out.2]; exact HA'.out _ _ r1, ?_, (Keeps.setCell (S := fun q => q = g) (p := ⟨g, 1, none⟩) ((Keeps.refl _ w).drewN _) (.inl rfl) _).drewN nq⟩
    rw [HE.out.1]
    exact ⟨⟨A, k, c, B, a, HW.out, hkc, r1, HA.out, hak, hk2, fun _ => rfl⟩, fun h => by cases h⟩
theorem ftake_any (w : World) (g : Nat) (s : RS) (hI : IsF w g s) (n : Int) (hn : n ≤ 9223372036854775807) :
    Calls Tryd.prog 25 #[.pointer (some ⟨g, 0, none⟩), .int .i64 n] w (FTEnd w g s n.toNat) := by
  by_cases h : n < 0
  · rw [show n.toNat = 0 by omega]; exact ftake_neg w g s hI n h
  · obtain ⟨m, rfl⟩ := Int.eq_ofNat_of_zero_le (show 0 ≤ n by omega)
    rw [Int.toNat_natCast]
    exact ftake_nat w g s hI m (by omega)

/-- What the document's reading of a number leaves. -/
def FNEnd (w : World) (g : Nat) (s : RS) (m : Nat) (x : Ending) (w' : World) : Prop := x = .returned (.int .u64 (natBE (takeO s m) : Nat)) ∧ FPost w g (takeS s m) w'
set_option maxRecDepth 100000 in
set_option maxHeartbeats 1600000 in
theorem fnumber_any (w : World) (g : Nat) (s : RS) (hI : IsF w g s) (m : Nat) (hm : m ≤ 8) :
    Calls Tryd.prog 27 #[.pointer (some ⟨g, 0, none⟩), .int .i64 m] w (FNEnd w g s m) := by
  have HI := Lib.hid hI
  clear hI
  go_enter Tryd.func27, Tryd.ntmps27
  go_wp2_with fail
  refine (ftake_any _ _ s HI.out m (by omega)).mono ?_
  rintro e w1 ⟨A, n, c, rfl, hR, hp⟩
  rw [Int.toNat_natCast] at hR hp
  have HR := Lib.hid hR
  have HP := Lib.hid hp
  have hn : n ≤ 8 := by have := hR.1; have := takeO_len s m; omega
  have HLN := Lib.hid (show (takeO s m).length = n from hR.1)
  generalize hoo : takeO s m = o at *
  have HOO := Lib.hid hoo
  clear hR hp hoo
  go_wp2
  go_loop [5, 7] (fun nv iv => ∃ k : Nat, k ≤ n ∧ iv = .int .i64 k ∧ nv = .int .u64 (natBE (o.take k) : Nat)) (fun _ iv => n - (intOf iv).toNat)
  case atStart => exact ⟨0, by omega, rfl, rfl⟩
  case round =>
    obtain ⟨k, hk, rfl, rfl⟩ := hrel
    by_cases hko : k < n
    · obtain ⟨ad, rfl, hc⟩ := HR.out.at k hko
      have hkl : k < o.length := by have := HLN.out; omega
      have hx := natBE_take o k (by omega)
      have hsn : natBE (o.take (k + 1)) = 256 * natBE (o.take k) + (o.getD k 0).toNat := by
        rw [take_snoc o k hkl, natBE_snoc, List.getD_eq_getElem?_getD, List.getElem?_eq_getElem hkl]; rfl
      have HS := Lib.hid hsn
      clear hsn
      generalize natBE (o.take k) = x at *
      generalize o.getD k 0 = b at *
      have hb := b.toNat_lt
      go_wp2
      go_round
      case rel => exact ⟨k + 1, by omega, by go_num, congrArg (Value.int .u64) (by rw [HS.out]; omega)⟩
      case measure => simp [intOf]; omega
    · have ht : o.take k = o := List.take_of_length_le (by have := HLN.out; omega)
      have HT := Lib.hid ht
      clear ht
      go_wp2
      go_ret
      exact ⟨by rw [HT.out, HOO.out]; rfl, HP.out⟩

set_option maxHeartbeats 800000 in
theorem ftext_any (w : World) (g : Nat) (s : RS) (hI : IsF w g s) :
    Calls Tryd.prog 32 #[.pointer (some ⟨g, 0, none⟩)] w fun e w' => e = .returned (.string ⟨(textO s).toArray⟩) ∧ FPost w g (textS s) w' := by
  have HI := Lib.hid hI
  have hx := natBE_of s 2
  simp only [Nat.reducePow] at hx
  have HO := Lib.hid (show takeO (takeS s 2) (natBE (takeO s 2)) = textO s from rfl)
  have HS := Lib.hid (show takeS (takeS s 2) (natBE (takeO s 2)) = textS s from rfl)
  clear hI
  go_enter Tryd.func32, Tryd.ntmps32
  go_wp2_with fail
  refine (fnumber_any _ _ s HI.out 2 (by omega)).mono ?_
  rintro e w1 ⟨rfl, hp⟩
  have HP := Lib.hid hp
  clear hp
  generalize natBE (takeO s 2) = q at *
  generalize takeS s 2 = s2 at *
  go_wp2_with fail
  refine (ftake_any _ _ s2 HP.out.is _ (by omega)).mono ?_
  rintro e w2 ⟨A, n, c, rfl, hR, hp2⟩
  rw [Int.toNat_natCast] at hR hp2
  rw [HO.out] at hR
  rw [HS.out] at hp2
  have hcv := rd_string (P := Tryd.prog) Tryd.underlying22 Tryd.underlying5 Tryd.underlying9 hR c
  have HP2 := Lib.hid hp2
  clear hp2 hR
  go_wp2
  go_ret
  exact ⟨rfl, HP2.out.is, HP.out.keeps.trans HP2.out.keeps (fun i hi => .inl hi)⟩

set_option maxHeartbeats 800000 in
theorem fleft_any (w : World) (g : Nat) (s : RS) (hI : IsF w g s) :
    Calls Tryd.prog 34 #[.pointer (some ⟨g, 0, none⟩)] w fun e w' => e = .returned (.int .i64 s.l.length) ∧ ∃ m, w' = w.drewN m := by
  obtain ⟨l, short⟩ := s
  have hnil := hI.nil
  obtain ⟨A, k, c, B, a, hb, hkc, hr, ha, hak, hk2, hl⟩ := hI.ex
  have hkl := hr.1
  simp only at hb hnil hr hkl hl
  have c0 : w.cell? ⟨g, 0, none⟩ = some (.slice A k c) := by rw [blk_cell hb]; rfl
  have c1 : w.cell? ⟨g, 1, none⟩ = some (.int .i64 a) := by rw [blk_cell hb]; rfl
  have c2 : w.cell? ⟨g, 2, none⟩ = some (.bool short) := by rw [blk_cell hb]; rfl
  have HKL := Lib.hid hkl
  have HLL := Lib.hid hl
  clear hb hr ha hI hkl hl
  cases short with
  | true =>
    have hl0 := hnil rfl
    subst hl0
    go_enter Tryd.func34, Tryd.ntmps34
    go_wp2
    go_ret
    exact ⟨rfl, 0, rfl⟩
  | false =>
    have hw1 : IntKind.i64.wrap ((k : Int) - (a : Int)) = (k : Int) - (a : Int) := by rw [IntKind.wrap_i64]; omega
    have HL2 := Lib.hid (HLL.out rfl)
    go_enter Tryd.func34, Tryd.ntmps34
    go_wp2
    go_quiet (fail)
    go_wp2
    go_ret
    refine ⟨ret_eq (congrArg (Value.int .i64) ?_), _, rfl⟩
    have h1 := HKL.out
    have h2 := HL2.out
    subst h2
    simp
    omega
theorem IsR.drawn {w : World} {g : Nat} {s : RS} (h : IsR w g s) (n : Nat) : IsR (w.drewN n) g s := h.keptNo ((Keeps.refl _ _).drewN n)
theorem IsF.drawn {w : World} {g : Nat} {s : RS} (h : IsF w g s) (n : Nat) : IsF (w.drewN n) g s := h.keptNo ((Keeps.refl _ _).drewN n)
theorem rleft_q {w : World} {g n : Nat} {s : RS} (h : IsR w g s) : Calls Tryd.prog 35 #[.pointer (some ⟨g, 0, none⟩)] (w.drewN n) fun e w' => e = .returned (.int .i64 s.l.length) ∧ ∃ m, w' = w.drewN m :=
  Calls.quiet_of_same ((rleft_any _ g s (h.drawn n)).mono fun _ _ h => ⟨h.1, h.2.symm⟩)
theorem rerr_q1 {w : World} {g n : Nat} {l : List UInt8} (h : IsR w g ⟨l, true⟩) : Calls Tryd.prog 36 #[.pointer (some ⟨g, 0, none⟩)] (w.drewN n) fun e w' => e = .returned (.int .i64 4) ∧ ∃ m, w' = w.drewN m :=
  Calls.quiet_of_same ((rerr_any _ g _ (h.drawn n)).mono fun _ _ h => ⟨h.1, h.2.symm⟩)
theorem rerr_q0 {w : World} {g n : Nat} {l : List UInt8} (h : IsR w g ⟨l, false⟩) : Calls Tryd.prog 36 #[.pointer (some ⟨g, 0, none⟩)] (w.drewN n) fun e w' => e = .returned (.int .i64 0) ∧ ∃ m, w' = w.drewN m :=
  Calls.quiet_of_same ((rerr_any _ g _ (h.drawn n)).mono fun _ _ h => ⟨h.1, h.2.symm⟩)
theorem fleft_q {w : World} {g n : Nat} {s : RS} (h : IsF w g s) : Calls Tryd.prog 34 #[.pointer (some ⟨g, 0, none⟩)] (w.drewN n) fun e w' => e = .returned (.int .i64 s.l.length) ∧ ∃ m, w' = w.drewN m :=
  Calls.quiet_of (fleft_any _ g s (h.drawn n))
end Go.Proofs.YtieipnnpkngegaaDoor
