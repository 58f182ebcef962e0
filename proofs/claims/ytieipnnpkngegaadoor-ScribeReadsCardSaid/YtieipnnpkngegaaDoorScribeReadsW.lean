/- The walk of the law ScribeReads. -/
import Derived.Test.YtieipnnpkngegaaDoorRf
import Derived.Test.YtieipnnpkngegaaDoorScribeLaysW
namespace Go.Proofs.YtieipnnpkngegaaDoor
open Go.RowKit Go.Proofs.YtieipnnpkngegaaDoorW.PrintWords
/-- Two readers side by side, alike. -/
structure SR (w1 : World) (gr gf : Nat) (s : RS) (wr : World) : Prop where
  r : IsR wr gr s
  f : IsF wr gf s
  keeps : Keeps (fun q => q = gr ∨ q = gf) w1 wr
  ne : gr ≠ gf
  lr : gr < w1.heap.size
  lf : gf < w1.heap.size
theorem IsR.noU8 {w : World} {g : Nat} {s : RS} (h : IsR w g s) : ∃ cs t, w.heap[g]? = some (.cells cs t (0, 0)) ∧ ∀ (j : Nat) (c : Int), cs[j]? ≠ some (Value.int .u8 c) := by
  obtain ⟨A, n, c, hb, _⟩ := h.ex
  refine ⟨_, _, hb, fun j c => ?_⟩
  rcases j with _ | _ | j <;> simp
theorem IsF.noU8 {w : World} {g : Nat} {s : RS} (h : IsF w g s) : ∃ cs t, w.heap[g]? = some (.cells cs t (0, 0)) ∧ ∀ (j : Nat) (c : Int), cs[j]? ≠ some (Value.int .u8 c) := by
  obtain ⟨A, n, c, B, a, hb, _⟩ := h.ex
  refine ⟨_, _, hb, fun j c => ?_⟩
  rcases j with _ | _ | _ | j <;> simp
theorem SR.no {w1 : World} {gr gf : Nat} {s : RS} {wr w2 : World} (h : SR w1 gr gf s wr) (k : Keeps No wr w2) : SR w1 gr gf s w2 :=
  ⟨h.r.keptNo k, h.f.keptNo k, h.keeps.then k, h.ne, h.lr, h.lf⟩
/-- The first has read. -/
theorem SR.half {w1 : World} {gr gf : Nat} {s s' : RS} {wr w2 : World} (h : SR w1 gr gf s wr) (p : RPost wr gr s' w2) : IsF w2 gf s :=
  h.f.kept p.keeps (fun e => h.ne e.symm) (fun q hq => .inr (by subst hq; exact h.r.noU8))
/-- Both have. -/
theorem SR.both {w1 : World} {gr gf : Nat} {s s' : RS} {wr w2 w3 : World} (h : SR w1 gr gf s wr) (p : RPost wr gr s' w2) (k : Keeps No w2 w3) {w4 : World} (q : FPost w3 gf s' w4) : SR w1 gr gf s' w4 :=
  ⟨(p.is.keptNo k).kept q.keeps (fun e => h.ne e) (fun x hx => by subst hx; exact ((h.half p).keptNo k).noU8), q.is,
    ((h.keeps.trans p.keeps (fun i hi => .inl (.inl hi))).then k).trans q.keeps (fun i hi => .inl (.inr hi)), h.ne, h.lr, h.lf⟩
theorem textS_len (s : RS) : (textS s).l.length ≤ s.l.length := Nat.le_trans (takeS_len _ _) (takeS_len _ _)

set_option maxRecDepth 100000 in
set_option maxHeartbeats 12800000 in
theorem scribeReads_walk (w : World) (A : Option Addr) (n c : Nat) (b : List UInt8) (hRb : Rd w A n b) (hc : n ≤ c) (A' : Option Addr) (n' c' : Nat) (l : List Pce) (hR : RdP w A' n' l) (hok : ∀ p ∈ l, p.Ok) (hT : Tabb w) :
    Calls Tryd.prog 6 #[.slice A n c, .slice A' n' c'] w fun e w' => e = .returned (.bool true) ∧ Keeps No w w' := by
  have hn : n ≤ 9223372036854775807 := hRb.2.1
  have HT := Lib.hid hT
  have HR := Lib.hid hR
  have HOK := Lib.hid hok
  have hmin := min_num n 400 400 rfl
  have hm : min n 400 ≤ 400 := by omega
  have hqc : min n 400 ≤ c := by omega
  have hRt := hRb.take (min n 400) (by omega)
  have hblen : (b.take (min n 400)).length ≤ 400 := by simp; omega
  generalize b.take (min n 400) = m at *
  generalize min n 400 = q at *
  have HRT := Lib.hid hRt
  have HQ := Lib.hid hRt.1
  clear hT hR hok hRb hRt
  go_enter Tryd.func6, Tryd.ntmps6
  go_wp2_with fail
  refine (new_any w A q c m HRT.out (by omega)).mono ?_
  rintro e w0 ⟨gr, rfl, hIr, hgr, hk0⟩
  have HIR := Lib.hid hIr
  have HK0 := Lib.hid hk0
  have hs0 := hk0.size
  clear hIr hk0
  go_wp2_with fail
  have hka := (Keeps.refl No w0).alloc (.cells #[.slice A q c, .int .i64 0, .bool false] 49)
  have HKA := Lib.hid (HK0.out.then hka)
  have hIf : IsF (w0.alloc (.cells #[.slice A q c, .int .i64 0, .bool false] 49)) w0.heap.size ⟨m, false⟩ := by
    refine ⟨⟨A, q, c, m, 0, heap_alloc_new w0 _, hqc, HKA.out.rdNo HRT.out, fun ad hA hq0 e => ?_, by omega, by omega, fun _ => rfl⟩, fun h => by cases h⟩
    obtain ⟨ad', hA', hcl⟩ := HRT.out.2.2 hq0
    rw [hA] at hA'; injection hA' with hA'; subst hA'
    have h1 := World.block_lt_of_cell? w _ (hcl 0 hq0)
    have hb : (ad.add 0).block = ad.block := by simp [Addr.add]
    omega
  have HIF := Lib.hid hIf
  have HIR2 := Lib.hid (HIR.out.keptNo hka)
  have hgr2 := HIR.out.lt
  clear hka hIf
  refine (few_any _ A' n' c' l (by exact HR.out.imp_ HKA.out.below' (fun _ _ h => h)) HOK.out 40 (by omega)).mono ?_
  rintro e w1 ⟨r, rfl, ho, hk⟩
  have HKW := Lib.hid (HKA.out.then hk)
  obtain ⟨Af, cf, rfl, hfr⟩ := own_reads_row ho (csP_reps (fewP l 40)) rfl
  have hsz1 := hk.size
  simp only [World.size_alloc] at hsz1
  have HSR := Lib.hid (show SR w1 gr w0.heap.size ⟨m, false⟩ w1 from ⟨HIR2.out.keptNo hk, HIF.out.keptNo hk, Keeps.refl _ _, by omega, by omega, by omega⟩)
  have HFL := Lib.hid (fewP_len l 40)
  have HFO := Lib.hid (fewP_ok l 40 HOK.out)
  have HBL := Lib.hid (show ∀ ad, Af = some ad → ad.block ≠ gr ∧ ad.block ≠ w0.heap.size from fun ad had => by
    have := own_base ho ad.block (by rw [had]; rfl)
    simp only [World.size_alloc] at this
    omega)
  generalize fewP l 40 = F at *
  have HFR := Lib.hid hfr
  have hF40 : F.length ≤ 40 := HFL.out
  clear ho hk hfr
  go_wp2
  go_loopw [24] (fun iv wr => ∃ k : Nat, ∃ s : RS, k ≤ F.length ∧ s.l.length ≤ 400 ∧ iv = .int .i64 k ∧ SR w1 gr w0.heap.size s wr) (fun iv _ => F.length - (intOf iv).toNat)
  case atStart => exact ⟨0, _, by omega, hblen, rfl, HSR.out⟩
  case round =>
    obtain ⟨k, s, hk, hsl, rfl, hs⟩ := hrel
    have HS := Lib.hid hs
    clear hs
    by_cases hkF : k < F.length
    · obtain ⟨ad, hAf, hcell⟩ := HFR.out.2.2 (by omega)
      obtain ⟨cs, _, hcsP, hcc⟩ := hcell k F[k] (List.getElem?_eq_getElem hkF)
      have HPO := Lib.hid (HFO.out F[k] (List.getElem_mem hkF))
      have hnum := (HFO.out F[k] (List.getElem_mem hkF)).num
      have hadb : ∀ j, ¬ ((ad.add j).block = gr ∨ (ad.add j).block = w0.heap.size) := fun j => by
        have hb : (ad.add j).block = ad.block := by unfold Addr.add; split <;> rfl
        rw [hb]; have := HBL.out ad hAf; omega
      generalize F[k] = p at *
      have hc0 := HS.out.keeps.cell (hcc 0 (.int .i64 p.what) (by rw [hcsP]; rfl)) (hadb _)
      have hc1 := HS.out.keeps.cell (hcc 1 (.int .u64 p.n) (by rw [hcsP]; rfl)) (hadb _)
      have hc2 := HS.out.keeps.cell (hcc 2 (.string p.text) (by rw [hcsP]; rfl)) (hadb _)
      rw [Nat.add_zero] at hc0
      rw [add_field _ _ _ (by omega)] at hc1 hc2
      clear hcc hcell hcsP hadb
      subst hAf
      obtain ⟨what, num, text⟩ := p
      simp only at hc0 hc1 hc2 hnum
      have HS1 := Lib.hid (HS.out.no ((Keeps.refl No wr).alloc (.cells #[.int .i64 what, .int .u64 num, .string text] 35)))
      by_cases h0 : what = 0
      · subst h0
        go_wp2_with fail
        refine (take_any _ _ s HS1.out.r _ (by omega) (by omega)).mono ?_
        rintro e w2 ⟨r, rfl, ho2, hp2⟩
        obtain ⟨A2, c2, rfl, _, hR2⟩ := ho2.rd
        have HP2 := Lib.hid hp2
        have HF2 := Lib.hid (HS1.out.half hp2)
        have HB2 := Lib.hid (show ∀ ad, A2 = some ad → wr.heap.size + 1 ≤ ad.block from fun ad h => by have := own_base ho2 ad.block (by rw [h]; rfl); simpa using this)
        have HR2 := Lib.hid hR2
        have hlf := HS1.out.lf
        have hsw := HS1.out.keeps.size
        simp only [World.size_alloc] at hsw
        clear ho2 hp2 hR2
        go_wp2_with fail
        refine (ftake_any _ _ s HF2.out _ (by omega)).mono ?_
        rintro e w3 ⟨A3, n3, c3, rfl, hR3, hp3⟩
        have HS3 := Lib.hid (HS1.out.both HP2.out (Keeps.refl _ _) hp3)
        have HR3 := Lib.hid hR3
        have HR23 := Lib.hid (hp3.keeps.rd HR2.out (fun ad h _ e => by have := HB2.out ad h; omega))
        clear hR3 hp3
        generalize hmm : Int.toNat ((num : Int) % 300 - 5) = mm at *
        have hqq : (takeO s mm == takeO s mm) = true := by simp
        go_wp2_with fail
        refine (bequal_any _ _ _ _ _ _ _ _ _ HR23.out HR3.out).mono ?_
        rintro e w4 ⟨rfl, rfl⟩
        obtain ⟨s5, hs5, hs5l⟩ : ∃ s5 : RS, SR w1 gr w0.heap.size s5 w3 ∧ s5.l.length ≤ 400 := ⟨_, HS3.out, Nat.le_trans (takeS_len _ _) hsl⟩
        obtain ⟨l5, sh5⟩ := s5
        have HS5 := Lib.hid hs5
        have HSr := Lib.hid hs5.r
        have HSf := Lib.hid hs5.f
        obtain ⟨A5, n5, c5, B5, a5, hb5, _⟩ := hs5.f.ex
        have hsh5 : w3.cell? ⟨w0.heap.size, 2, none⟩ = some (.bool sh5) := by rw [blk_cell hb5]; rfl
        clear hs5 hb5
        cases sh5 with
        | true =>
          go_wp2
          go_quiet (first | (go_at_call 35; exact rleft_q HSr.out) | (go_at_call 34; exact fleft_q HSf.out) | (go_at_call 36; exact rerr_q1 HSr.out))
          go_wp2
          go_roundw
          case rel => exact ⟨k + 1, _, by omega, hs5l, by go_num, HS5.out.no ((Keeps.refl No _).drewN _)⟩
          case measure => simp [intOf]; omega
        | false =>
          go_wp2
          go_quiet (first | (go_at_call 35; exact rleft_q HSr.out) | (go_at_call 34; exact fleft_q HSf.out) | (go_at_call 36; exact rerr_q0 HSr.out))
          go_wp2
          go_roundw
          case rel => exact ⟨k + 1, _, by omega, hs5l, by go_num, HS5.out.no ((Keeps.refl No _).drewN _)⟩
          case measure => simp [intOf]; omega
      by_cases h1 : what = 1
      · subst h1
        have hx := natBE_of s 1
        simp only [Nat.reducePow] at hx
        go_wp2_with fail
        refine (rbyte_any _ _ s HS1.out.r (by omega)).mono ?_
        rintro e w2 ⟨rfl, hp2⟩
        have HP2 := Lib.hid hp2
        have HF2 := Lib.hid (HS1.out.half hp2)
        clear hp2
        go_wp2_with fail
        refine (fnumber_any _ _ s HF2.out 1 (by omega)).mono ?_
        rintro e w3 ⟨rfl, hp3⟩
        have HS3 := Lib.hid (HS1.out.both HP2.out (Keeps.refl _ _) hp3)
        clear hp3
        obtain ⟨s5, hs5, hs5l⟩ : ∃ s5 : RS, SR w1 gr w0.heap.size s5 w3 ∧ s5.l.length ≤ 400 := ⟨_, HS3.out, Nat.le_trans (takeS_len _ _) hsl⟩
        obtain ⟨l5, sh5⟩ := s5
        have HS5 := Lib.hid hs5
        have HSr := Lib.hid hs5.r
        have HSf := Lib.hid hs5.f
        obtain ⟨A5, n5, c5, B5, a5, hb5, _⟩ := hs5.f.ex
        have hsh5 : w3.cell? ⟨w0.heap.size, 2, none⟩ = some (.bool sh5) := by rw [blk_cell hb5]; rfl
        clear hs5 hb5
        cases sh5 with
        | true =>
          go_wp2
          go_quiet (first | (go_at_call 35; exact rleft_q HSr.out) | (go_at_call 34; exact fleft_q HSf.out) | (go_at_call 36; exact rerr_q1 HSr.out))
          go_wp2
          go_roundw
          case rel => exact ⟨k + 1, _, by omega, hs5l, by go_num, HS5.out.no ((Keeps.refl No _).drewN _)⟩
          case measure => simp [intOf]; omega
        | false =>
          go_wp2
          go_quiet (first | (go_at_call 35; exact rleft_q HSr.out) | (go_at_call 34; exact fleft_q HSf.out) | (go_at_call 36; exact rerr_q0 HSr.out))
          go_wp2
          go_roundw
          case rel => exact ⟨k + 1, _, by omega, hs5l, by go_num, HS5.out.no ((Keeps.refl No _).drewN _)⟩
          case measure => simp [intOf]; omega
      by_cases h2 : what = 2
      · subst h2
        have hx := natBE_of s 2
        simp only [Nat.reducePow] at hx
        go_wp2_with fail
        refine (rtwo_any _ _ s HS1.out.r (by omega)).mono ?_
        rintro e w2 ⟨rfl, hp2⟩
        have HP2 := Lib.hid hp2
        have HF2 := Lib.hid (HS1.out.half hp2)
        clear hp2
        go_wp2_with fail
        refine (fnumber_any _ _ s HF2.out 2 (by omega)).mono ?_
        rintro e w3 ⟨rfl, hp3⟩
        have HS3 := Lib.hid (HS1.out.both HP2.out (Keeps.refl _ _) hp3)
        clear hp3
        obtain ⟨s5, hs5, hs5l⟩ : ∃ s5 : RS, SR w1 gr w0.heap.size s5 w3 ∧ s5.l.length ≤ 400 := ⟨_, HS3.out, Nat.le_trans (takeS_len _ _) hsl⟩
        obtain ⟨l5, sh5⟩ := s5
        have HS5 := Lib.hid hs5
        have HSr := Lib.hid hs5.r
        have HSf := Lib.hid hs5.f
        obtain ⟨A5, n5, c5, B5, a5, hb5, _⟩ := hs5.f.ex
        have hsh5 : w3.cell? ⟨w0.heap.size, 2, none⟩ = some (.bool sh5) := by rw [blk_cell hb5]; rfl
        clear hs5 hb5
        cases sh5 with
        | true =>
          go_wp2
          go_quiet (first | (go_at_call 35; exact rleft_q HSr.out) | (go_at_call 34; exact fleft_q HSf.out) | (go_at_call 36; exact rerr_q1 HSr.out))
          go_wp2
          go_roundw
          case rel => exact ⟨k + 1, _, by omega, hs5l, by go_num, HS5.out.no ((Keeps.refl No _).drewN _)⟩
          case measure => simp [intOf]; omega
        | false =>
          go_wp2
          go_quiet (first | (go_at_call 35; exact rleft_q HSr.out) | (go_at_call 34; exact fleft_q HSf.out) | (go_at_call 36; exact rerr_q0 HSr.out))
          go_wp2
          go_roundw
          case rel => exact ⟨k + 1, _, by omega, hs5l, by go_num, HS5.out.no ((Keeps.refl No _).drewN _)⟩
          case measure => simp [intOf]; omega
      by_cases h3 : what = 3
      · subst h3
        have hx := natBE_of s 4
        simp only [Nat.reducePow] at hx
        go_wp2_with fail
        refine (rfour_any _ _ s HS1.out.r (by omega)).mono ?_
        rintro e w2 ⟨rfl, hp2⟩
        have HP2 := Lib.hid hp2
        have HF2 := Lib.hid (HS1.out.half hp2)
        clear hp2
        go_wp2_with fail
        refine (fnumber_any _ _ s HF2.out 4 (by omega)).mono ?_
        rintro e w3 ⟨rfl, hp3⟩
        have HS3 := Lib.hid (HS1.out.both HP2.out (Keeps.refl _ _) hp3)
        clear hp3
        obtain ⟨s5, hs5, hs5l⟩ : ∃ s5 : RS, SR w1 gr w0.heap.size s5 w3 ∧ s5.l.length ≤ 400 := ⟨_, HS3.out, Nat.le_trans (takeS_len _ _) hsl⟩
        obtain ⟨l5, sh5⟩ := s5
        have HS5 := Lib.hid hs5
        have HSr := Lib.hid hs5.r
        have HSf := Lib.hid hs5.f
        obtain ⟨A5, n5, c5, B5, a5, hb5, _⟩ := hs5.f.ex
        have hsh5 : w3.cell? ⟨w0.heap.size, 2, none⟩ = some (.bool sh5) := by rw [blk_cell hb5]; rfl
        clear hs5 hb5
        cases sh5 with
        | true =>
          go_wp2
          go_quiet (first | (go_at_call 35; exact rleft_q HSr.out) | (go_at_call 34; exact fleft_q HSf.out) | (go_at_call 36; exact rerr_q1 HSr.out))
          go_wp2
          go_roundw
          case rel => exact ⟨k + 1, _, by omega, hs5l, by go_num, HS5.out.no ((Keeps.refl No _).drewN _)⟩
          case measure => simp [intOf]; omega
        | false =>
          go_wp2
          go_quiet (first | (go_at_call 35; exact rleft_q HSr.out) | (go_at_call 34; exact fleft_q HSf.out) | (go_at_call 36; exact rerr_q0 HSr.out))
          go_wp2
          go_roundw
          case rel => exact ⟨k + 1, _, by omega, hs5l, by go_num, HS5.out.no ((Keeps.refl No _).drewN _)⟩
          case measure => simp [intOf]; omega
      by_cases h4 : what = 4
      · subst h4
        have hx := natBE_of s 8
        simp only [Nat.reducePow] at hx
        go_wp2_with fail
        refine (reight_any _ _ s HS1.out.r (by omega)).mono ?_
        rintro e w2 ⟨rfl, hp2⟩
        have HP2 := Lib.hid hp2
        have HF2 := Lib.hid (HS1.out.half hp2)
        clear hp2
        go_wp2_with fail
        refine (fnumber_any _ _ s HF2.out 8 (by omega)).mono ?_
        rintro e w3 ⟨rfl, hp3⟩
        have HS3 := Lib.hid (HS1.out.both HP2.out (Keeps.refl _ _) hp3)
        clear hp3
        obtain ⟨s5, hs5, hs5l⟩ : ∃ s5 : RS, SR w1 gr w0.heap.size s5 w3 ∧ s5.l.length ≤ 400 := ⟨_, HS3.out, Nat.le_trans (takeS_len _ _) hsl⟩
        obtain ⟨l5, sh5⟩ := s5
        have HS5 := Lib.hid hs5
        have HSr := Lib.hid hs5.r
        have HSf := Lib.hid hs5.f
        obtain ⟨A5, n5, c5, B5, a5, hb5, _⟩ := hs5.f.ex
        have hsh5 : w3.cell? ⟨w0.heap.size, 2, none⟩ = some (.bool sh5) := by rw [blk_cell hb5]; rfl
        clear hs5 hb5
        cases sh5 with
        | true =>
          go_wp2
          go_quiet (first | (go_at_call 35; exact rleft_q HSr.out) | (go_at_call 34; exact fleft_q HSf.out) | (go_at_call 36; exact rerr_q1 HSr.out))
          go_wp2
          go_roundw
          case rel => exact ⟨k + 1, _, by omega, hs5l, by go_num, HS5.out.no ((Keeps.refl No _).drewN _)⟩
          case measure => simp [intOf]; omega
        | false =>
          go_wp2
          go_quiet (first | (go_at_call 35; exact rleft_q HSr.out) | (go_at_call 34; exact fleft_q HSf.out) | (go_at_call 36; exact rerr_q0 HSr.out))
          go_wp2
          go_roundw
          case rel => exact ⟨k + 1, _, by omega, hs5l, by go_num, HS5.out.no ((Keeps.refl No _).drewN _)⟩
          case measure => simp [intOf]; omega
      by_cases h5 : what = 5
      · subst h5
        go_wp2_with fail
        refine (rtext_any _ _ s HS1.out.r (by omega)).mono ?_
        rintro e w2 ⟨rfl, hp2⟩
        have HP2 := Lib.hid hp2
        have HF2 := Lib.hid (HS1.out.half hp2)
        clear hp2
        go_wp2_with fail
        refine (ftext_any _ _ s HF2.out).mono ?_
        rintro e w3 ⟨rfl, hp3⟩
        have HS3 := Lib.hid (HS1.out.both HP2.out (Keeps.refl _ _) hp3)
        clear hp3
        obtain ⟨s5, hs5, hs5l⟩ : ∃ s5 : RS, SR w1 gr w0.heap.size s5 w3 ∧ s5.l.length ≤ 400 := ⟨_, HS3.out, Nat.le_trans (textS_len _) hsl⟩
        obtain ⟨l5, sh5⟩ := s5
        have HS5 := Lib.hid hs5
        have HSr := Lib.hid hs5.r
        have HSf := Lib.hid hs5.f
        obtain ⟨A5, n5, c5, B5, a5, hb5, _⟩ := hs5.f.ex
        have hsh5 : w3.cell? ⟨w0.heap.size, 2, none⟩ = some (.bool sh5) := by rw [blk_cell hb5]; rfl
        clear hs5 hb5
        cases sh5 with
        | true =>
          go_wp2
          go_quiet (first | (go_at_call 35; exact rleft_q HSr.out) | (go_at_call 34; exact fleft_q HSf.out) | (go_at_call 36; exact rerr_q1 HSr.out))
          go_wp2
          go_roundw
          case rel => exact ⟨k + 1, _, by omega, hs5l, by go_num, HS5.out.no ((Keeps.refl No _).drewN _)⟩
          case measure => simp [intOf]; omega
        | false =>
          go_wp2
          go_quiet (first | (go_at_call 35; exact rleft_q HSr.out) | (go_at_call 34; exact fleft_q HSf.out) | (go_at_call 36; exact rerr_q0 HSr.out))
          go_wp2
          go_roundw
          case rel => exact ⟨k + 1, _, by omega, hs5l, by go_num, HS5.out.no ((Keeps.refl No _).drewN _)⟩
          case measure => simp [intOf]; omega
      by_cases h6 : what = 6
      · subst h6
        go_wp2_with fail
        refine (rrest_any _ _ s HS1.out.r (by omega)).mono ?_
        rintro e w2 ⟨r, rfl, ho2, hp2⟩
        obtain ⟨A2, c2, rfl, _, hR2⟩ := ho2.rd
        have HP2 := Lib.hid hp2
        have HF2 := Lib.hid (HS1.out.half hp2)
        have HB2 := Lib.hid (show ∀ ad, A2 = some ad → wr.heap.size + 1 ≤ ad.block from fun ad h => by have := own_base ho2 ad.block (by rw [h]; rfl); simpa using this)
        have HR2 := Lib.hid hR2
        have hlf := HS1.out.lf
        have hsw := HS1.out.keeps.size
        simp only [World.size_alloc] at hsw
        clear ho2 hp2 hR2
        go_wp2_with fail
        refine (fleft_any _ _ s HF2.out).mono ?_
        rintro e w3 ⟨rfl, nd, hw3⟩
        subst hw3
        have HF3 := Lib.hid (HF2.out.drawn nd)
        go_wp2_with fail
        refine (ftake_any _ _ s HF3.out _ (by omega)).mono ?_
        rintro e w4 ⟨A3, n3, c3, rfl, hR3, hp3⟩
        rw [Int.toNat_natCast] at hR3 hp3
        have HS3 := Lib.hid (HS1.out.both HP2.out ((Keeps.refl No _).drewN nd) hp3)
        have HR3 := Lib.hid hR3
        have HR23 := Lib.hid (hp3.keeps.rd (((Keeps.refl No _).drewN nd).rdNo HR2.out) (fun ad h _ e => by have := HB2.out ad h; omega))
        clear hR3 hp3
        have hqq : (takeO s s.l.length == takeO s s.l.length) = true := by simp
        go_wp2_with fail
        refine (bequal_any _ _ _ _ _ _ _ _ _ HR23.out HR3.out).mono ?_
        rintro e w5 ⟨rfl, rfl⟩
        obtain ⟨s5, hs5, hs5l⟩ : ∃ s5 : RS, SR w1 gr w0.heap.size s5 w4 ∧ s5.l.length ≤ 400 := ⟨_, HS3.out, Nat.le_trans (takeS_len _ _) hsl⟩
        obtain ⟨l5, sh5⟩ := s5
        have HS5 := Lib.hid hs5
        have HSr := Lib.hid hs5.r
        have HSf := Lib.hid hs5.f
        obtain ⟨A5, n5, c5, B5, a5, hb5, _⟩ := hs5.f.ex
        have hsh5 : w4.cell? ⟨w0.heap.size, 2, none⟩ = some (.bool sh5) := by rw [blk_cell hb5]; rfl
        clear hs5 hb5
        cases sh5 with
        | true =>
          go_wp2
          go_quiet (first | (go_at_call 35; exact rleft_q HSr.out) | (go_at_call 34; exact fleft_q HSf.out) | (go_at_call 36; exact rerr_q1 HSr.out))
          go_wp2
          go_roundw
          case rel => exact ⟨k + 1, _, by omega, hs5l, by go_num, HS5.out.no ((Keeps.refl No _).drewN _)⟩
          case measure => simp [intOf]; omega
        | false =>
          go_wp2
          go_quiet (first | (go_at_call 35; exact rleft_q HSr.out) | (go_at_call 34; exact fleft_q HSf.out) | (go_at_call 36; exact rerr_q0 HSr.out))
          go_wp2
          go_roundw
          case rel => exact ⟨k + 1, _, by omega, hs5l, by go_num, HS5.out.no ((Keeps.refl No _).drewN _)⟩
          case measure => simp [intOf]; omega
      have b0 : (what == 0) = false := beq_eq_false_iff_ne.2 h0
      have b1 : (what == 1) = false := beq_eq_false_iff_ne.2 h1
      have b2 : (what == 2) = false := beq_eq_false_iff_ne.2 h2
      have b3 : (what == 3) = false := beq_eq_false_iff_ne.2 h3
      have b4 : (what == 4) = false := beq_eq_false_iff_ne.2 h4
      have b5 : (what == 5) = false := beq_eq_false_iff_ne.2 h5
      have b6 : (what == 6) = false := beq_eq_false_iff_ne.2 h6
      clear h0 h1 h2 h3 h4 h5 h6
      obtain ⟨s5, hs5, hs5l⟩ : ∃ s5 : RS, SR w1 gr w0.heap.size s5 (wr.alloc (.cells #[.int .i64 what, .int .u64 num, .string text] 35)) ∧ s5.l.length ≤ 400 := ⟨_, HS1.out, hsl⟩
      obtain ⟨l5, sh5⟩ := s5
      have HS5 := Lib.hid hs5
      have HSr := Lib.hid hs5.r
      have HSf := Lib.hid hs5.f
      obtain ⟨A5, n5, c5, B5, a5, hb5, _⟩ := hs5.f.ex
      have hsh5 : (wr.alloc (.cells #[.int .i64 what, .int .u64 num, .string text] 35)).cell? ⟨w0.heap.size, 2, none⟩ = some (.bool sh5) := by rw [blk_cell hb5]; rfl
      clear hs5 hb5
      cases sh5 with
      | true =>
        go_wp2
        go_quiet (first | (go_at_call 35; exact rleft_q HSr.out) | (go_at_call 34; exact fleft_q HSf.out) | (go_at_call 36; exact rerr_q1 HSr.out))
        go_wp2
        go_roundw
        case rel => exact ⟨k + 1, _, by omega, hs5l, by go_num, HS5.out.no ((Keeps.refl No _).drewN _)⟩
        case measure => simp [intOf]; omega
      | false =>
        go_wp2
        go_quiet (first | (go_at_call 35; exact rleft_q HSr.out) | (go_at_call 34; exact fleft_q HSf.out) | (go_at_call 36; exact rerr_q0 HSr.out))
        go_wp2
        go_roundw
        case rel => exact ⟨k + 1, _, by omega, hs5l, by go_num, HS5.out.no ((Keeps.refl No _).drewN _)⟩
        case measure => simp [intOf]; omega
    · have HK9 := Lib.hid (HKW.out.trans HS.out.keeps (fun i hi => .inr (by omega)))
      have HT9 := Lib.hid (HT.out.keptNo HKW.out |>.kept HS.out.keeps (by have := HT.out.lt; omega))
      go_wp2_with fail
      refine (wakes_any _ HT9.out).mono ?_
      rintro e w5 ⟨rfl, hk5⟩
      have HK5 := Lib.hid hk5
      clear hk5
      go_wp2
      go_ret
      exact ⟨rfl, HK9.out.then HK5.out⟩
end Go.Proofs.YtieipnnpkngegaaDoor
