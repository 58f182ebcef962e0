/- The reader's calls: what each answers and leaves. -/
import Derived.Test.YtieipnnpkngegaaDoorNm
namespace Go.Proofs.YtieipnnpkngegaaDoor
open Go.RowKit Go.Proofs.YtieipnnpkngegaaDoorW.PrintWords

/-- What a reader has: bytes, and whether something was not there. -/
structure RS where
  l : List UInt8
  short : Bool
/-- Taking so many bytes. -/
def takeO (s : RS) (m : Nat) : List UInt8 := if s.short = true then [] else if s.l.length < m then [] else s.l.take m
def takeS (s : RS) (m : Nat) : RS := if s.short = true then s else if s.l.length < m then ⟨[], true⟩ else ⟨s.l.drop m, false⟩
/-- A number of bytes, the highest first. -/
def natBE (l : List UInt8) : Nat := l.foldl (fun n c => 256 * n + c.toNat) 0
theorem natBE_snoc (l : List UInt8) (c : UInt8) : natBE (l ++ [c]) = 256 * natBE l + c.toNat := by simp [natBE, List.foldl_append]
theorem natBE_lt (l : List UInt8) : natBE l < 256 ^ l.length := by
  have key : ∀ (l : List UInt8) (n : Nat), l.foldl (fun n c => 256 * n + c.toNat) n < (n + 1) * 256 ^ l.length := by
    intro l
    induction l with
    | nil => intro n; simp
    | cons c l ih =>
      intro n
      have h1 := ih (256 * n + c.toNat)
      have hc := c.toNat_lt
      have h2 : (256 * n + c.toNat + 1) * 256 ^ l.length ≤ ((n + 1) * 256) * 256 ^ l.length := Nat.mul_le_mul_right _ (by omega)
      rw [List.foldl_cons, List.length_cons, Nat.pow_succ, Nat.mul_comm (256 ^ l.length) 256, ← Nat.mul_assoc]
      omega
  have := key l 0
  simpa [natBE] using this

/-- A reader at block g. -/
structure IsR (w : World) (g : Nat) (s : RS) : Prop where
  ex : ∃ A n c, w.heap[g]? = some (.cells #[.slice A n c, .bool s.short] 95 (0, 0)) ∧ n ≤ c ∧ Rd w A n s.l ∧ ∀ ad, A = some ad → ad.block ≠ g
  nil : s.short = true → s.l = []
/-- What a reader's call leaves. -/
structure RPost (w : World) (g : Nat) (s : RS) (w' : World) : Prop where
  is : IsR w' g s
  keeps : Keeps (fun q => q = g) w w'
theorem IsR.lt {w : World} {g : Nat} {s : RS} (h : IsR w g s) : g < w.heap.size := by
  obtain ⟨A, n, c, hb, _⟩ := h.ex
  exact blk_lt hb
theorem IsR.keptNo {w w1 : World} {g : Nat} {s : RS} (h : IsR w g s) (k : Keeps No w w1) : IsR w1 g s := by
  obtain ⟨A, n, c, hb, hn, hr, ha⟩ := h.ex
  exact ⟨⟨A, n, c, k.heap hb (fun h => h), hn, k.rdNo hr, ha⟩, h.nil⟩
/-- A reader lives on where its block and its row are let be: its row lies where its own bytes do. -/
theorem IsR.kept {w w1 : World} {g : Nat} {s : RS} {S : Nat → Prop} (h : IsR w g s) (k : Keeps S w w1) (hg : ¬ S g) (hS : ∀ q, S q → ∃ cs t, w.heap[q]? = some (.cells cs t (0, 0)) ∧ ∀ (j : Nat) (c : Int), cs[j]? ≠ some (Value.int .u8 c)) : IsR w1 g s := by
  obtain ⟨A, n, c, hb, hn, hr, ha⟩ := h.ex
  refine ⟨⟨A, n, c, k.heap hb hg, hn, k.rd hr ?_, ha⟩, h.nil⟩
  intro ad hA hn hs
  obtain ⟨ad', hA', hc⟩ := hr.2.2 hn
  rw [hA] at hA'
  injection hA' with hA'
  subst hA'
  obtain ⟨cs, t, hq, hno⟩ := hS _ hs
  have h0 := hc 0 hn
  have e0 : ad.add 0 = ad := by simp [Addr.add]
  rw [e0] at h0
  unfold World.cell? at h0
  rw [hq] at h0
  simp only at h0
  split at h0
  · cases h0
  · exact hno _ _ h0

set_option maxHeartbeats 800000 in
theorem new_any (w : World) (A : Option Addr) (n c : Nat) (l : List UInt8) (hR : Rd w A n l) (hn : n ≤ 140737488355328) :
    Calls Tryd.prog 23 #[.slice A n c] w fun e w' => ∃ g, e = .returned (.pointer (some ⟨g, 0, none⟩)) ∧ IsR w' g ⟨l, false⟩ ∧ w.heap.size ≤ g ∧ Keeps No w w' := by
  have HR := Lib.hid hR
  clear hR
  go_enter Tryd.func23, Tryd.ntmps23
  go_wp2_with fail
  refine (sclone_any _ _ _ _ _ HR.out hn).mono ?_
  rintro e w1 ⟨r, rfl, h1⟩
  obtain ⟨A1, c1, rfl, hc1, hR1⟩ := h1.row.rd
  have H1 := Lib.hid h1
  have HR1 := Lib.hid hR1
  clear h1 hR1
  go_wp2
  go_ret
  refine ⟨_, rfl, ⟨⟨A1, l.length, c1, heap_alloc_new w1 _, hc1, ((Keeps.refl No w1).alloc _).rdNo HR1.out, fun ad h e => ?_⟩, fun h => by cases h⟩, H1.out.keeps.size, H1.out.keeps.alloc _⟩
  have := own_lt H1.out.row ad.block (by rw [h]; rfl)
  omega

/-- 'xs[m:]' without a case on the capacity. -/
theorem cut_from (A : Option Addr) (n c m : Nat) (hm : m ≤ n) :
    ∃ A' : Option Addr, (∀ W : World, (Instr.slice 22 (.slice A n c) (some (.int .i64 (m : Int))) none none).run Tryd.prog W = .ok (.slice A' (n - m) (c - m)) W) ∧
      (∀ (w : World) (l : List UInt8), n ≤ c → Rd w A n l → Rd w A' (n - m) (l.drop m)) ∧ ∀ ad', A' = some ad' → ∃ ad, A = some ad ∧ ad'.block = ad.block := by
  obtain ⟨i0, hi, _, hsz, _⟩ := info_parts Tryd.info5
  refine ⟨if c = m then A else A.map (·.add m), fun W => ?_, fun w l hc h => h.drop m hm hc, fun ad' h => ?_⟩
  · have hel : Tryd.prog.elem 22 = 5 := by simp [Program.elem, Tryd.underlying22]
    have hu : Tryd.prog.underlying 22 = some (.slice (Tryd.prog.elem 22)) := by rw [hel]; exact Tryd.underlying22
    rw [run_slice_l W 22 A n c hu .i64 (m : Int) (Int.natCast_nonneg _) (by omega), hel]
    simp [sizeOf, typeInfo, hi, hsz, sliced, Result.andThen]
  · split at h
    · exact ⟨ad', h, rfl⟩
    · obtain ⟨ad, hA, rfl⟩ := Option.map_eq_some_iff.1 h
      exact ⟨ad, hA, by unfold Addr.add; split <;> rfl⟩
theorem max_num (n : Int) (ats : Array TypeId) (ty : TypeId) : Builtin.max_ ats ty #[.int .i64 n, .int .i64 0] = pure (.int .i64 ((n.toNat : Nat) : Int)) := by
  simp only [Builtin.max_, List.foldlM_cons, List.foldlM_nil, Builtin.max2]
  have : (if (0 : Int) > n then (0 : Int) else n) = ((n.toNat : Nat) : Int) := by split <;> omega
  rw [this]; rfl
/-- What Take leaves. -/
def TEnd (w : World) (g : Nat) (s : RS) (m : Nat) (x : Ending) (w' : World) : Prop := ∃ r, x = .returned r ∧ Ow w' w.heap.size r (takeO s m) ∧ RPost w g (takeS s m) w'

set_option maxRecDepth 100000 in
set_option maxHeartbeats 1600000 in
theorem take_any (w : World) (g : Nat) (s : RS) (hI : IsR w g s) (n : Int) (hn : n ≤ 9223372036854775807) (hl : s.l.length ≤ 140737488355328) :
    Calls Tryd.prog 24 #[.pointer (some ⟨g, 0, none⟩), .int .i64 n] w (TEnd w g s n.toNat) := by
  have hmx := max_num n
  have hm : n.toNat ≤ 9223372036854775807 := by omega
  obtain ⟨l, short⟩ := s
  have hnil := hI.nil
  obtain ⟨A, k, c, hb, hkc, hr, ha⟩ := hI.ex
  have hkl := hr.1
  simp only at hb hnil hr hl hkl
  have c0 : w.cell? ⟨g, 0, none⟩ = some (.slice A k c) := by rw [blk_cell hb]; rfl
  have c1 : w.cell? ⟨g, 1, none⟩ = some (.bool short) := by rw [blk_cell hb]; rfl
  have f0 := blk_frozen hb 0
  have f1 := blk_frozen hb 1
  have HB := Lib.hid hb
  have HR := Lib.hid hr
  have HA := Lib.hid ha
  have HKL := Lib.hid hkl
  have HI := Lib.hid hI
  have hk2 : k ≤ 140737488355328 := by omega
  generalize n.toNat = m at *
  clear hb hr ha hkl hI hn
  cases short with
  | true =>
    have hl0 := hnil rfl
    subst hl0
    go_enter Tryd.func24, Tryd.ntmps24
    go_wp2
    go_ret
    exact ⟨_, rfl, Ow.nil _ _, HI.out, Keeps.refl _ _⟩
  | false =>
    by_cases hlt : k < m
    · have he : takeS ⟨l, false⟩ m = ⟨[], true⟩ ∧ takeO ⟨l, false⟩ m = [] := by
        have := HKL.out
        constructor
        · simp [takeS]; omega
        · simp [takeO]; omega
      have HE := Lib.hid he
      clear he
      go_enter Tryd.func24, Tryd.ntmps24
      go_wp2
      go_ret
      refine ⟨_, rfl, by rw [HE.out.2]; exact Ow.nil _ _, ?_, Keeps.setCell (S := fun q => q = g) (p := ⟨g, 1, none⟩) (Keeps.setCell (S := fun q => q = g) (p := ⟨g, 0, none⟩) (Keeps.refl _ _) (.inl rfl) _) (.inl rfl) _⟩
      rw [HE.out.1]
      exact ⟨⟨none, 0, 0, by simpa using blk_set (blk_set HB.out 0 (.slice none 0 0)) 1 (.bool true), by omega, Rd.nil _, fun ad h => by cases h⟩, fun _ => rfl⟩
    · have he : takeS ⟨l, false⟩ m = ⟨l.drop m, false⟩ ∧ takeO ⟨l, false⟩ m = l.take m := by
        have := HKL.out
        constructor
        · simp [takeS]; omega
        · simp [takeO]; omega
      have HE := Lib.hid he
      clear he
      go_enter Tryd.func24, Tryd.ntmps24
      go_wp2_with fail
      refine (sclone_any _ _ _ _ _ (HR.out.take m (by omega)) (by omega)).mono ?_
      rintro e w1 ⟨r, rfl, h1⟩
      have H1 := Lib.hid h1
      have HO := Lib.hid (show ∀ X, Ow (w1.setCell ⟨g, 0, none⟩ X) w.heap.size r (l.take m) from fun X => own_setCell h1.row (fun e => by have := own_base h1.row g e.symm; have := blk_lt HB.out; omega) X)
      have hb1 := h1.keeps.heap HB.out (fun h => h)
      have HB1 := Lib.hid hb1
      have d0 : w1.cell? ⟨g, 0, none⟩ = some (.slice A k c) := by rw [blk_cell hb1]; rfl
      have g0 := blk_frozen hb1 0
      clear h1 hb1 c0 c1 f0 f1
      obtain ⟨A', hcut, hA', hAb⟩ := cut_from A k c m (by omega)
      have HA' := Lib.hid hA'
      have HAb := Lib.hid hAb
      have HR2 := Lib.hid (show ∀ X, Rd (w1.setCell ⟨g, 0, none⟩ X) A' (k - m) (l.drop m) from fun X => by
        have h2 := HA'.out w1 l hkc (H1.out.keeps.rdNo HR.out)
        refine ((Keeps.refl (fun q => q = g) w1).setCell (p := ⟨g, 0, none⟩) (.inl rfl) X).rd h2 (fun ad h _ e => ?_)
        obtain ⟨ad0, h0, e0⟩ := HAb.out ad h
        exact HA.out ad0 h0 (e0 ▸ e))
      clear hA' hAb
      go_wp2
      go_ret
      refine ⟨r, rfl, by rw [HE.out.2]; exact HO.out _, ?_, Keeps.setCell (S := fun q => q = g) (p := ⟨g, 0, none⟩) (H1.out.keeps.mono (fun _ h => h.elim)) (.inl rfl) _⟩
      rw [HE.out.1]
      exact ⟨⟨A', k - m, c - m, by simpa using blk_set HB1.out 0 (.slice A' (k - m) (c - m)), by omega, HR2.out _, fun ad h => by obtain ⟨ad0, h0, e⟩ := HAb.out ad h; rw [e]; exact HA.out ad0 h0⟩, fun h => by cases h⟩

theorem shl8 (x : Nat) (hx : x < 72057594037927936) (c : UInt8) : bits .or .u64 ((x : Int) * 256) (c.toNat : Int) = ((256 * x + c.toNat : Nat) : Int) := by
  have h := u64_or_nat (x * 256) c.toNat (by omega) (by have := c.toNat_lt; omega)
  have h2 : (x * 256) ||| c.toNat = 256 * x + c.toNat := by
    have h3 := Nat.two_pow_add_eq_or_of_lt (i := 8) (b := c.toNat) c.toNat_lt x
    simp only [Nat.reducePow] at h3
    rw [h3, Nat.mul_comm]
  rw [h2] at h
  have e : ((x * 256 : Nat) : Int) = (x : Int) * 256 := by omega
  rw [e] at h
  exact h
theorem takeO_len (s : RS) (m : Nat) : (takeO s m).length ≤ m := by
  unfold takeO
  split
  · simp
  · split
    · simp
    · simp; omega
theorem natBE_take (o : List UInt8) (k : Nat) (hk : k ≤ 7) : natBE (o.take k) < 72057594037927936 := by
  have h := natBE_lt (o.take k)
  have h2 : 256 ^ (o.take k).length ≤ 256 ^ 7 := Nat.pow_le_pow_right (by omega) (by simp; omega)
  have h3 : 256 ^ 7 = 72057594037927936 := by decide
  omega
theorem natBE_8 (o : List UInt8) (h : o.length ≤ 8) : natBE o < 18446744073709551616 := by
  have h1 := natBE_lt o
  have h2 : 256 ^ o.length ≤ 256 ^ 8 := Nat.pow_le_pow_right (by omega) h
  have h3 : 256 ^ 8 = 18446744073709551616 := by decide
  omega
/-- What a reading of a number leaves. -/
def NEnd (k : IntKind) (w : World) (g : Nat) (s : RS) (m : Nat) (x : Ending) (w' : World) : Prop := x = .returned (.int k (natBE (takeO s m) : Nat)) ∧ RPost w g (takeS s m) w'

set_option maxRecDepth 100000 in
set_option maxHeartbeats 1600000 in
theorem rnumber_any (w : World) (g : Nat) (s : RS) (hI : IsR w g s) (m : Nat) (hm : m ≤ 8) (hl : s.l.length ≤ 140737488355328) :
    Calls Tryd.prog 62 #[.pointer (some ⟨g, 0, none⟩), .int .i64 m] w (NEnd .u64 w g s m) := by
  have HI := Lib.hid hI
  clear hI
  go_enter Tryd.func62, Tryd.ntmps62
  go_wp2_with fail
  refine (take_any _ _ s HI.out m (by omega) hl).mono ?_
  rintro e w1 ⟨r, rfl, hr, hp⟩
  rw [Int.toNat_natCast] at hr hp
  obtain ⟨A, c, rfl, _, hR⟩ := hr.rd
  have HR := Lib.hid hR
  have HP := Lib.hid hp
  have HL8 := Lib.hid (Nat.le_trans (takeO_len s m) hm)
  generalize hoo : takeO s m = o at *
  have HOO := Lib.hid hoo
  have ho8 : o.length ≤ 8 := HL8.out
  clear hR hp hr hoo
  go_wp2
  go_loop [5, 12] (fun nv iv => ∃ k : Nat, k ≤ o.length ∧ iv = .int .i64 k ∧ nv = .int .u64 (natBE (o.take k) : Nat)) (fun _ iv => o.length - (intOf iv).toNat)
  case atStart => exact ⟨0, by omega, rfl, rfl⟩
  case round =>
    obtain ⟨k, hk, rfl, rfl⟩ := hrel
    by_cases hko : k < o.length
    · obtain ⟨ad, rfl, hc⟩ := HR.out.at k hko
      have hx := natBE_take o k (by omega)
      have hsn : natBE (o.take (k + 1)) = 256 * natBE (o.take k) + (o.getD k 0).toNat := by
        rw [take_snoc o k hko, natBE_snoc, List.getD_eq_getElem?_getD, List.getElem?_eq_getElem hko]; rfl
      have HS := Lib.hid hsn
      clear hsn
      generalize natBE (o.take k) = x at *
      generalize o.getD k 0 = b at *
      have hb := b.toNat_lt
      have HV := Lib.hid (shl8 x hx b)
      go_wp2
      go_round
      case rel => exact ⟨k + 1, by omega, by go_num, congrArg (Value.int .u64) (by rw [HS.out, HV.out])⟩
      case measure => simp [intOf]; omega
    · have ht : o.take k = o := List.take_of_length_le (by omega)
      have HT := Lib.hid ht
      clear ht
      go_wp2
      go_ret
      exact ⟨by rw [HT.out, HOO.out]; rfl, HP.out⟩
theorem natBE_of (s : RS) (m : Nat) : natBE (takeO s m) < 256 ^ m := by
  have h := natBE_lt (takeO s m)
  exact Nat.lt_of_lt_of_le h (Nat.pow_le_pow_right (by omega) (takeO_len s m))

set_option maxHeartbeats 800000 in
theorem rbyte_any (w : World) (g : Nat) (s : RS) (hI : IsR w g s) (hl : s.l.length ≤ 140737488355328) :
    Calls Tryd.prog 26 #[.pointer (some ⟨g, 0, none⟩)] w (NEnd .u8 w g s 1) := by
  have HI := Lib.hid hI
  have hx := natBE_of s 1
  simp only [Nat.reducePow] at hx
  clear hI
  go_enter Tryd.func26, Tryd.ntmps26
  go_wp2_with fail
  refine (rnumber_any _ _ s HI.out 1 (by omega) hl).mono ?_
  rintro e w1 ⟨rfl, hp⟩
  have HP := Lib.hid hp
  clear hp
  go_wp2
  go_ret
  exact ⟨rfl, HP.out⟩

set_option maxHeartbeats 800000 in
theorem rtwo_any (w : World) (g : Nat) (s : RS) (hI : IsR w g s) (hl : s.l.length ≤ 140737488355328) :
    Calls Tryd.prog 28 #[.pointer (some ⟨g, 0, none⟩)] w (NEnd .u16 w g s 2) := by
  have HI := Lib.hid hI
  have hx := natBE_of s 2
  simp only [Nat.reducePow] at hx
  clear hI
  go_enter Tryd.func28, Tryd.ntmps28
  go_wp2_with fail
  refine (rnumber_any _ _ s HI.out 2 (by omega) hl).mono ?_
  rintro e w1 ⟨rfl, hp⟩
  have HP := Lib.hid hp
  clear hp
  go_wp2
  go_ret
  exact ⟨rfl, HP.out⟩

set_option maxHeartbeats 800000 in
theorem rfour_any (w : World) (g : Nat) (s : RS) (hI : IsR w g s) (hl : s.l.length ≤ 140737488355328) :
    Calls Tryd.prog 29 #[.pointer (some ⟨g, 0, none⟩)] w (NEnd .u32 w g s 4) := by
  have HI := Lib.hid hI
  have hx := natBE_of s 4
  simp only [Nat.reducePow] at hx
  clear hI
  go_enter Tryd.func29, Tryd.ntmps29
  go_wp2_with fail
  refine (rnumber_any _ _ s HI.out 4 (by omega) hl).mono ?_
  rintro e w1 ⟨rfl, hp⟩
  have HP := Lib.hid hp
  clear hp
  go_wp2
  go_ret
  exact ⟨rfl, HP.out⟩

set_option maxHeartbeats 800000 in
theorem reight_any (w : World) (g : Nat) (s : RS) (hI : IsR w g s) (hl : s.l.length ≤ 140737488355328) :
    Calls Tryd.prog 30 #[.pointer (some ⟨g, 0, none⟩)] w (NEnd .u64 w g s 8) := by
  have HI := Lib.hid hI
  have hx := natBE_of s 8
  simp only [Nat.reducePow] at hx
  clear hI
  go_enter Tryd.func30, Tryd.ntmps30
  go_wp2_with fail
  refine (rnumber_any _ _ s HI.out 8 (by omega) hl).mono ?_
  rintro e w1 ⟨rfl, hp⟩
  have HP := Lib.hid hp
  clear hp
  go_wp2
  go_ret
  exact ⟨rfl, HP.out⟩

/-- A text read: its bytes, and what is left. -/
def textO (s : RS) : List UInt8 := takeO (takeS s 2) (natBE (takeO s 2))
def textS (s : RS) : RS := takeS (takeS s 2) (natBE (takeO s 2))
theorem takeS_len (s : RS) (m : Nat) : (takeS s m).l.length ≤ s.l.length := by
  unfold takeS
  split
  · omega
  · split
    · simp
    · simp
theorem takeO_le (s : RS) (m : Nat) : (takeO s m).length ≤ s.l.length := by
  unfold takeO
  split
  · simp
  · split
    · simp
    · simp; omega
set_option maxHeartbeats 800000 in
theorem rtext_any (w : World) (g : Nat) (s : RS) (hI : IsR w g s) (hl : s.l.length ≤ 140737488355328) :
    Calls Tryd.prog 31 #[.pointer (some ⟨g, 0, none⟩)] w fun e w' => e = .returned (.string ⟨(textO s).toArray⟩) ∧ RPost w g (textS s) w' := by
  have HI := Lib.hid hI
  have hx := natBE_of s 2
  simp only [Nat.reducePow] at hx
  have hl2 := takeS_len s 2
  have HO := Lib.hid (show takeO (takeS s 2) (natBE (takeO s 2)) = textO s from rfl)
  have HS := Lib.hid (show takeS (takeS s 2) (natBE (takeO s 2)) = textS s from rfl)
  clear hI
  go_enter Tryd.func31, Tryd.ntmps31
  go_wp2_with fail
  refine (rtwo_any _ _ s HI.out hl).mono ?_
  rintro e w1 ⟨rfl, hp⟩
  have HP := Lib.hid hp
  clear hp
  generalize natBE (takeO s 2) = q at *
  generalize takeS s 2 = s2 at *
  go_wp2_with fail
  refine (take_any _ _ s2 HP.out.is _ (by omega) (by omega)).mono ?_
  rintro e w2 ⟨r, rfl, hr, hp2⟩
  rw [Int.toNat_natCast] at hr hp2
  rw [HO.out] at hr
  rw [HS.out] at hp2
  obtain ⟨A, c, rfl, _, hR⟩ := hr.rd
  have hcv := rd_string (P := Tryd.prog) Tryd.underlying22 Tryd.underlying5 Tryd.underlying9 hR c
  have HP2 := Lib.hid hp2
  clear hp2 hr hR
  go_wp2
  go_ret
  exact ⟨rfl, HP2.out.is, HP.out.keeps.trans HP2.out.keeps (fun i hi => .inl hi)⟩

set_option maxHeartbeats 800000 in
theorem rleft_any (w : World) (g : Nat) (s : RS) (hI : IsR w g s) :
    Calls Tryd.prog 35 #[.pointer (some ⟨g, 0, none⟩)] w fun e w' => e = .returned (.int .i64 s.l.length) ∧ w = w' := by
  obtain ⟨A, k, c, hb, hkc, hr, ha⟩ := hI.ex
  have hkl : s.l.length = k := hr.1
  have c0 : w.cell? ⟨g, 0, none⟩ = some (.slice A k c) := by rw [blk_cell hb]; rfl
  have HKL := Lib.hid hkl
  clear hb hr ha hkl hI
  go_enter Tryd.func35, Tryd.ntmps35
  go_wp2
  go_ret
  exact ⟨by rw [HKL.out]; rfl, rfl⟩
def errOf (s : RS) : Int := if s.short = true then 4 else 0
set_option maxHeartbeats 800000 in
theorem rerr_any (w : World) (g : Nat) (s : RS) (hI : IsR w g s) :
    Calls Tryd.prog 36 #[.pointer (some ⟨g, 0, none⟩)] w fun e w' => e = .returned (.int .i64 (errOf s)) ∧ w = w' := by
  obtain ⟨A, k, c, hb, hkc, hr, ha⟩ := hI.ex
  have c1 : w.cell? ⟨g, 1, none⟩ = some (.bool s.short) := by rw [blk_cell hb]; rfl
  have HE := Lib.hid (show errOf s = if s.short = true then 4 else 0 from rfl)
  clear hb hr ha hI
  obtain ⟨l, short⟩ := s
  cases short <;>
  · go_enter Tryd.func36, Tryd.ntmps36
    go_wp2
    go_ret
    exact ⟨rfl, rfl⟩
set_option maxHeartbeats 800000 in
theorem rrest_any (w : World) (g : Nat) (s : RS) (hI : IsR w g s) (hl : s.l.length ≤ 140737488355328) :
    Calls Tryd.prog 33 #[.pointer (some ⟨g, 0, none⟩)] w (TEnd w g s s.l.length) := by
  have HI := Lib.hid hI
  clear hI
  go_enter Tryd.func33, Tryd.ntmps33
  go_wp2_with fail
  refine (rleft_any _ _ s HI.out).mono ?_
  rintro e w1 ⟨rfl, rfl⟩
  go_wp2_with fail
  refine (take_any _ _ s HI.out _ (by omega) hl).mono ?_
  rintro e w2 ⟨r, rfl, hr, hp⟩
  rw [Int.toNat_natCast] at hr hp
  have HR := Lib.hid hr
  have HP := Lib.hid hp
  clear hr hp
  go_wp2
  go_ret
  exact ⟨r, rfl, HR.out, HP.out⟩
end Go.Proofs.YtieipnnpkngegaaDoor
