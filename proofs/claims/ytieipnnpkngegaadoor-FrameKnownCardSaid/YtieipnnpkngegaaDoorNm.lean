/- The document's numbers and texts; a piece laid, and its form. -/
import Derived.Test.YtieipnnpkngegaaDoorPc
namespace Go.Proofs.YtieipnnpkngegaaDoor
open Go.RowKit Go.Proofs.YtieipnnpkngegaaDoorW.PrintWords

/-- A number in so many bytes, the highest first. -/
def numBE (n : Nat) : Nat → List UInt8
  | 0 => []
  | m + 1 => numBE (n / 256) m ++ [UInt8.ofNat n]
theorem numBE_len (m : Nat) : ∀ n, (numBE n m).length = m := by
  induction m with
  | zero => intro n; rfl
  | succ m ih => intro n; simp [numBE, ih]
theorem u8_mod (n : Nat) : UInt8.ofNat (n % 256) = UInt8.ofNat n := by
  apply UInt8.toNat_inj.1; simp
theorem u8_congr {a b : Nat} (h : a % 256 = b % 256) : UInt8.ofNat a = UInt8.ofNat b := by
  apply UInt8.toNat_inj.1; simpa using h
theorem numBE1 (n : Nat) : numBE n 1 = [UInt8.ofNat n] := rfl
theorem numBE2 (n : Nat) : numBE n 2 = be2 (n % 65536) := by
  simp only [numBE, be2, List.nil_append, List.cons_append]
  rw [u8_congr (a := n / 256) (b := n % 65536 / 256) (by omega), u8_congr (a := n) (b := n % 65536) (by omega)]
theorem numBE4 (n : Nat) : numBE n 4 = be4 (n % 4294967296) := by
  have h : numBE n 4 = numBE (n / 65536) 2 ++ numBE n 2 := by
    simp only [numBE, List.nil_append, List.cons_append]
    simp only [Nat.div_div_eq_div_mul, Nat.reduceMul]
  rw [h, numBE2, numBE2, be4]
  congr 2 <;> omega
theorem numBE8 (n : Nat) : numBE n 8 = be8 (n % 18446744073709551616) := by
  have h : numBE n 8 = numBE (n / 4294967296) 4 ++ numBE n 4 := by
    simp only [numBE, List.nil_append, List.cons_append]
    simp only [Nat.div_div_eq_div_mul, Nat.reduceMul]
  rw [h, numBE4, numBE4, be8]
  congr 2 <;> omega

set_option maxRecDepth 100000 in
set_option maxHeartbeats 1600000 in
theorem number_any (w : World) (n many : Nat) (hn : n < 18446744073709551616) (hm : many ≤ 8) :
    Calls Tryd.prog 60 #[.int .u64 n, .int .i64 many] w (CEnd w (numBE n many)) := by
  have hmk := print_make_of (P := Tryd.prog) 22 5 (.int .u8 0) 1 Tryd.underlying22 Tryd.info5 rfl (by decide) many (by omega)
  have HO0 := Lib.hid (own_made_of (enc := B8) (d := (0 : UInt8)) w w.heap.size 5 many (Nat.le_refl _) (by omega))
  go_enter Tryd.func60, Tryd.ntmps60
  go_wp2
  go_loopw [0, 6] (fun nv iv wr => ∃ j cur : Nat, ∃ tail : List UInt8, j ≤ many ∧ cur < 18446744073709551616 ∧ nv = .int .u64 cur ∧ iv = .int .i64 ((j : Int) - 1) ∧ numBE n many = numBE cur j ++ tail ∧
      wr.ownsRow w.heap.size 5 1 (.slice (some ⟨w.heap.size, 0, none⟩) many many) many (encs B8 (List.replicate j 0 ++ tail)) ∧ Keeps No w wr) (fun _ iv _ => (intOf iv + 1).toNat)
  case atStart => exact ⟨many, n, [], Nat.le_refl _, hn, rfl, rfl, by simp, by have h := HO0.out; rw [List.append_nil]; exact h, (Keeps.refl _ _).alloc _⟩
  case round =>
    obtain ⟨j, cur, tail, hj, hcur, rfl, rfl, hnum, ho, hk⟩ := hrel
    have HN := Lib.hid hnum
    have HO := Lib.hid ho
    have HK := Lib.hid hk
    clear hnum ho hk hmk
    cases j with
    | zero =>
      go_wp2
      go_ret
      exact ⟨_, rfl, by rw [HN.out]; have h := HO.out; unfold Ow; rw [← HN.out, numBE_len, HN.out]; simpa [numBE] using h, HK.out⟩
    | succ j =>
      have hcl := (own_at_of (d := (0 : UInt8)) HO.out ((j : Nat) : Int) (by omega) (by omega)).1
      have hcf := (own_at_of (d := (0 : UInt8)) HO.out ((j : Nat) : Int) (by omega) (by omega)).2
      simp only [Int.toNat_natCast, B8] at hcl hcf
      go_wp2
      go_roundw
      case rel =>
        refine ⟨j, cur / 256, UInt8.ofNat cur :: tail, by omega, by omega, rfl, rfl, ?_, ?_, HK.out.setCell (.inr (Nat.le_refl _)) _⟩
        · rw [HN.out]; simp [numBE]
        · have hs := (own_store_of HO.out ((j : Nat) : Int) (UInt8.ofNat cur)).1
          rw [Int.toNat_natCast] at hs
          have e1 : (List.replicate (j + 1) (0 : UInt8) ++ tail).set j (UInt8.ofNat cur) = List.replicate j 0 ++ UInt8.ofNat cur :: tail := by
            rw [List.replicate_succ', List.append_assoc, List.set_append_right _ _ (by simp)]
            simp
          rw [e1] at hs
          have e2 : B8 (UInt8.ofNat cur) = .int .u8 ((cur : Int) % 256) := by simp [B8]
          rw [e2] at hs
          exact hs
      case measure => simp [intOf]

set_option maxRecDepth 100000 in
set_option maxHeartbeats 1600000 in
theorem reftext_any (w : World) (s : ByteArray) (hs : s.size ≤ 65535) :
    Calls Tryd.prog 61 #[.string s] w fun e w' => ∃ r, e = .returned (.tuple #[r, .int .i64 0]) ∧ CPost w (be2 s.size ++ s.data.toList) w' r := by
  obtain ⟨i0, hi, hz0, hz1, hz2⟩ := info_parts Tryd.info5
  go_enter Tryd.func61, Tryd.ntmps61
  go_wp2_with fail
  refine (number_any _ s.size 2 (by omega) (by omega)).mono ?_
  rintro e w1 ⟨r, rfl, h1⟩
  have H1 := Lib.hid h1
  clear h1
  have hl2 : (numBE s.size 2).length = 2 := numBE_len _ _
  have HL2 := Lib.hid hl2
  clear hl2
  go_wp2_with (at_builtin; refine Lib.wpList_append_own_string _ rfl (.tmp 10) (.tmp 11) 22 9 rfl w.heap.size 5 i0 Tryd.underlying22 Tryd.underlying9 hi hz0 hz1 hz2 r _ _ rfl (by exact H1.out.row) s rfl (by rw [HL2.out]; unfold maxLen; omega) (by rw [HL2.out]; omega) (by exact H1.out.keeps.size) ?_; intro v1 w2 hown hgr _)
  go_ret2
  refine ⟨_, rfl, ?_, H1.out.keeps.grown hgr (fun k hk => .inr (own_base H1.out.row k hk))⟩
  have e1 : numBE s.size 2 = be2 s.size := by rw [numBE2, Nat.mod_eq_of_lt (by omega)]
  rw [e1] at hown
  unfold Ow
  have e2 : (be2 s.size ++ s.data.toList).length = (be2 s.size).length + s.size := by rw [List.length_append, data_length]
  rw [e2, encs_append]
  exact hown

/-- Bytes handed back to be read. -/
def FEnd (w : World) (l : List UInt8) (x : Ending) (w' : World) : Prop := ∃ A n c, x = .returned (.slice A n c) ∧ Rd w' A n l ∧ Keeps No w w'
theorem FEnd.of {w w0 w' : World} {l l' : List UInt8} {r : Value} (h : CPost w0 l w' r) (k : Keeps No w w0) (e : l = l') : ∃ A n c, r = .slice A n c ∧ Rd w' A n l' ∧ Keeps No w w' := by
  subst e
  obtain ⟨A, c, rfl, _, hR⟩ := h.row.rd
  exact ⟨A, _, c, rfl, hR, k.then h.keeps⟩
/-- A piece's form. -/
def formP (p : Pce) : List UInt8 :=
  if p.what = 1 then numBE p.n 1 else if p.what = 2 then numBE p.n 2 else if p.what = 3 then numBE p.n 4 else if p.what = 4 then numBE p.n 8
  else if p.what = 5 then be2 p.text.size ++ p.text.data.toList else p.text.data.toList
theorem formP_len (p : Pce) (h : p.text.size ≤ 100) : (formP p).length ≤ 102 := by
  unfold formP
  repeat' split
  all_goals first | (rw [numBE_len]; omega) | (simp [be2_len]; omega) | (rw [data_length]; omega)

set_option maxRecDepth 100000 in
set_option maxHeartbeats 3200000 in
theorem form_any (w : World) (p : Pce) (hp : p.Ok) (ht : p.text.size ≤ 100) :
    Calls Tryd.prog 19 #[.agg #[.int .i64 p.what, .int .u64 p.n, .string p.text]] w (FEnd w (formP p)) := by
  have hb := hp.num
  have kb := fun W => print_bytes (P := Tryd.prog) 9 22 5 Tryd.underlying9 Tryd.underlying22 Tryd.underlying5 p.text W
  have w0 : IntKind.i64.wrap 0 = 0 := by decide
  have w1 : IntKind.i64.wrap 1 = 1 := by decide
  have w2 : IntKind.i64.wrap 2 = 2 := by decide
  have w3 : IntKind.i64.wrap 3 = 3 := by decide
  have w4 : IntKind.i64.wrap 4 = 4 := by decide
  have w8 : IntKind.i64.wrap 8 = 8 := by decide
  obtain ⟨what, n, text⟩ := p
  simp only at hb ht kb
  have hsize : text.size ≤ 9223372036854775807 := by omega
  by_cases h1 : what = 1
  · subst h1
    go_enter Tryd.func19, Tryd.ntmps19
    go_wp2
    go_region_with (go_at_call 60; refine (number_any _ n 1 hb (by omega)).mono ?_; rintro e wx ⟨r, rfl, hx⟩)
    all_goals
      obtain ⟨A, m, c, rfl, hy⟩ := FEnd.of hx (((Keeps.refl No w).alloc _).drew) (show _ = formP ⟨1, n, text⟩ from rfl)
      have HX := Lib.hid hy
      clear hx hy
      go_wp2
      go_ret
      exact ⟨A, m, c, rfl, HX.out⟩
  by_cases h2 : what = 2
  · subst h2
    go_enter Tryd.func19, Tryd.ntmps19
    go_wp2
    go_region_with (go_at_call 60; refine (number_any _ n 2 hb (by omega)).mono ?_; rintro e wx ⟨r, rfl, hx⟩)
    all_goals
      obtain ⟨A, m, c, rfl, hy⟩ := FEnd.of hx (((Keeps.refl No w).alloc _).drew) (show _ = formP ⟨2, n, text⟩ from rfl)
      have HX := Lib.hid hy
      clear hx hy
      go_wp2
      go_ret
      exact ⟨A, m, c, rfl, HX.out⟩
  by_cases h3 : what = 3
  · subst h3
    go_enter Tryd.func19, Tryd.ntmps19
    go_wp2
    go_region_with (go_at_call 60; refine (number_any _ n 4 hb (by omega)).mono ?_; rintro e wx ⟨r, rfl, hx⟩)
    all_goals
      obtain ⟨A, m, c, rfl, hy⟩ := FEnd.of hx (((Keeps.refl No w).alloc _).drew) (show _ = formP ⟨3, n, text⟩ from rfl)
      have HX := Lib.hid hy
      clear hx hy
      go_wp2
      go_ret
      exact ⟨A, m, c, rfl, HX.out⟩
  by_cases h4 : what = 4
  · subst h4
    go_enter Tryd.func19, Tryd.ntmps19
    go_wp2
    go_region_with (go_at_call 60; refine (number_any _ n 8 hb (by omega)).mono ?_; rintro e wx ⟨r, rfl, hx⟩)
    all_goals
      obtain ⟨A, m, c, rfl, hy⟩ := FEnd.of hx (((Keeps.refl No w).alloc _).drew) (show _ = formP ⟨4, n, text⟩ from rfl)
      have HX := Lib.hid hy
      clear hx hy
      go_wp2
      go_ret
      exact ⟨A, m, c, rfl, HX.out⟩
  by_cases h5 : what = 5
  · subst h5
    go_enter Tryd.func19, Tryd.ntmps19
    go_wp2_with fail
    refine (reftext_any _ text (by omega)).mono ?_
    rintro e wx ⟨r, rfl, hx⟩
    obtain ⟨A, m, c, rfl, hy⟩ := FEnd.of hx ((Keeps.refl No w).alloc _) (show _ = formP ⟨5, n, text⟩ from rfl)
    have HX := Lib.hid hy
    clear hx hy
    go_wp2
    go_ret
    exact ⟨A, m, c, rfl, HX.out⟩
  · have b1 : (what == 1) = false := beq_eq_false_iff_ne.2 h1
    have b2 : (what == 2) = false := beq_eq_false_iff_ne.2 h2
    have b3 : (what == 3) = false := beq_eq_false_iff_ne.2 h3
    have b4 : (what == 4) = false := beq_eq_false_iff_ne.2 h4
    have b5 : (what == 5) = false := beq_eq_false_iff_ne.2 h5
    have hf : formP ⟨what, n, text⟩ = text.data.toList := by simp [formP, h1, h2, h3, h4, h5]
    rw [hf]
    clear h1 h2 h3 h4 h5 hf
    go_enter Tryd.func19, Tryd.ntmps19
    go_wp2
    go_ret
    refine ⟨_, _, _, rfl, ?_, ((Keeps.refl No w).alloc _).then (keeps_bytes _ 5 text)⟩
    have h := rd_bytes (w.alloc (.cells #[.int .i64 what, .int .u64 n, .string text] 35)) 5 text hsize
    simpa using h

set_option maxRecDepth 100000 in
set_option maxHeartbeats 3200000 in
theorem lay_any (w : World) (base g : Nat) (v : Value) (l : List UInt8) (p : Pce) (hp : p.Ok) (ht : p.text.size ≤ 100) (hW : IsW w base g v l 0) (hbase : base ≤ w.heap.size) (hl : l.length ≤ 100000) :
    Calls Tryd.prog 18 #[.pointer (some ⟨g, 0, none⟩), .agg #[.int .i64 p.what, .int .u64 p.n, .string p.text]] w (WEnd w base g v (l ++ formP p) 0) := by
  have hb := hp.num
  have kb := fun W => print_bytes (P := Tryd.prog) 9 22 5 Tryd.underlying9 Tryd.underlying22 Tryd.underlying5 p.text W
  have HW := Lib.hid hW
  clear hW
  obtain ⟨what, n, text⟩ := p
  simp only at hb ht kb
  have hsize : text.size ≤ 9223372036854775807 := by omega
  have hwr := IntKind.wrap_u16 (n : Int)
  have hwr2 := IntKind.wrap_u32' (n : Int)
  by_cases h1 : what = 1
  · subst h1
    have HE := Lib.hid (show numBE n 1 = formP ⟨1, n, text⟩ from rfl)
    go_enter Tryd.func18, Tryd.ntmps18
    go_wp2_with fail
    refine (wbyte_ok _ base g v l (numBE n 1) _ _ _ ((HW.out.alloc _).alloc _) (rd_mark _ _ _ _ 1 _ (by simp [encs, B8, numBE]) rfl (by omega) (by simp)) (by simp; omega) (by omega)).mono ?_
    rintro e wx ⟨rfl, v1, hx⟩
    have HX := Lib.hid (WPost.before (((Keeps.refl No w).alloc _).alloc _) hx)
    clear hx
    go_wp2
    go_ret
    refine ⟨rfl, v1, ?_⟩
    have h := HX.out
    rw [HE.out] at h
    exact h
  by_cases h2 : what = 2
  · subst h2
    have HE := Lib.hid (show be2 ((n : Int) % 65536).toNat = formP ⟨2, n, text⟩ from by show _ = numBE n 2; rw [numBE2]; congr 1)
    go_enter Tryd.func18, Tryd.ntmps18
    go_wp2_with fail
    refine (wtwo_ok _ base g v l _ (by omega) (by omega) (HW.out.alloc _) (by simp; omega) (by omega)).mono ?_
    rintro e wx ⟨rfl, v1, hx⟩
    have HX := Lib.hid (WPost.before ((Keeps.refl No w).alloc _) hx)
    clear hx
    go_wp2
    go_ret
    refine ⟨rfl, v1, ?_⟩
    have h := HX.out
    rw [HE.out] at h
    exact h
  by_cases h3 : what = 3
  · subst h3
    have HE := Lib.hid (show be4 ((n : Int) % 4294967296).toNat = formP ⟨3, n, text⟩ from by show _ = numBE n 4; rw [numBE4]; congr 1)
    go_enter Tryd.func18, Tryd.ntmps18
    go_wp2_with fail
    refine (wfour_ok _ base g v l _ (by omega) (by omega) (HW.out.alloc _) (by simp; omega) (by omega)).mono ?_
    rintro e wx ⟨rfl, v1, hx⟩
    have HX := Lib.hid (WPost.before ((Keeps.refl No w).alloc _) hx)
    clear hx
    go_wp2
    go_ret
    refine ⟨rfl, v1, ?_⟩
    have h := HX.out
    rw [HE.out] at h
    exact h
  by_cases h4 : what = 4
  · subst h4
    have HE := Lib.hid (show be8 (n : Int).toNat = formP ⟨4, n, text⟩ from by show _ = numBE n 8; rw [numBE8, Nat.mod_eq_of_lt hb]; rfl)
    go_enter Tryd.func18, Tryd.ntmps18
    go_wp2_with fail
    refine (weight_ok _ base g v l _ (by omega) (by omega) (HW.out.alloc _) (by simp; omega) (by omega)).mono ?_
    rintro e wx ⟨rfl, v1, hx⟩
    have HX := Lib.hid (WPost.before ((Keeps.refl No w).alloc _) hx)
    clear hx
    go_wp2
    go_ret
    refine ⟨rfl, v1, ?_⟩
    have h := HX.out
    rw [HE.out] at h
    exact h
  by_cases h5 : what = 5
  · subst h5
    have HE := Lib.hid (show be2 text.size ++ text.data.toList = formP ⟨5, n, text⟩ from rfl)
    go_enter Tryd.func18, Tryd.ntmps18
    go_wp2_with fail
    refine (wtext_ok _ base g v l text (by omega) (HW.out.alloc _) (by simp; omega) (by omega)).mono ?_
    rintro e wx ⟨rfl, v1, hx⟩
    have HX := Lib.hid (WPost.before ((Keeps.refl No w).alloc _) hx)
    clear hx
    go_wp2
    go_ret
    refine ⟨rfl, v1, ?_⟩
    have h := HX.out
    rw [List.append_assoc, HE.out] at h
    exact h
  have b1 : (what == 1) = false := beq_eq_false_iff_ne.2 h1
  have b2 : (what == 2) = false := beq_eq_false_iff_ne.2 h2
  have b3 : (what == 3) = false := beq_eq_false_iff_ne.2 h3
  have b4 : (what == 4) = false := beq_eq_false_iff_ne.2 h4
  have b5 : (what == 5) = false := beq_eq_false_iff_ne.2 h5
  have hf : formP ⟨what, n, text⟩ = text.data.toList := by simp [formP, h1, h2, h3, h4, h5]
  rw [hf]
  clear h1 h2 h3 h4 h5 hf
  go_enter Tryd.func18, Tryd.ntmps18
  go_wp2_with fail
  have hrd := rd_bytes (w.alloc (.cells #[.int .i64 what, .int .u64 n, .string text] 35)) 5 text hsize
  simp only [World.size_alloc] at hrd
  have hkk := ((Keeps.refl No w).alloc (.cells #[.int .i64 what, .int .u64 n, .string text] 35)).then (keeps_bytes _ 5 text)
  refine (wbyte_ok _ base g v l text.data.toList _ _ _ (by exact HW.out.keptNo hkk) (by exact hrd) (by have := hkk.size; omega) (by omega)).mono ?_
  rintro e wx ⟨rfl, v1, hx⟩
  have HX := Lib.hid (WPost.before hkk hx)
  clear hx hrd hkk
  go_wp2
  go_ret
  exact ⟨rfl, v1, HX.out⟩
end Go.Proofs.YtieipnnpkngegaaDoor
