/- The walk of the law ScribeLays. -/
import Derived.Test.YtieipnnpkngegaaDoorNm
namespace Go.Proofs.YtieipnnpkngegaaDoor
open Go.RowKit Go.Proofs.YtieipnnpkngegaaDoorW.PrintWords

/-- The writer at g holds Lw, the row wv beside it Lv; of what was there at w1 the writer alone may have turned. -/
structure SL (w1 : World) (g : Nat) (Lw Lv : List UInt8) (v wv : Value) (wr : World) : Prop where
  is : IsW wr g g v Lw 0
  vrow : ∀ q, v.ownBlock = some q → w1.heap.size ≤ q
  want : Ow wr w1.heap.size wv Lv
  apart : ∀ q, wv.ownBlock = some q → v.ownBlock ≠ some q
  keeps : Keeps (fun q => q = g) w1 wr
  lt : g < w1.heap.size
theorem SL.wrow {w1 : World} {g : Nat} {Lw Lv : List UInt8} {v wv : Value} {wr : World} (h : SL w1 g Lw Lv v wv wr) (q : Nat) (hq : wv.ownBlock = some q) : w1.heap.size ≤ q ∧ q < wr.heap.size := ⟨own_base h.want q hq, own_lt h.want q hq⟩
theorem SL.no {w1 : World} {g : Nat} {Lw Lv : List UInt8} {v wv : Value} {wr w2 : World} (h : SL w1 g Lw Lv v wv wr) (k : Keeps No wr w2) : SL w1 g Lw Lv v wv w2 :=
  ⟨h.is.keptNo k, h.vrow, k.owNo h.want, h.apart, h.keeps.then k, h.lt⟩
theorem SL.lay {w1 : World} {g : Nat} {Lw Lv L : List UInt8} {v wv v1 : Value} {wr w2 : World} (h : SL w1 g Lw Lv v wv wr) (p : WPost wr g g v L 0 w2 v1) : SL w1 g L Lv v1 wv w2 := by
  have hl := h.lt
  refine ⟨p.is, ?_, p.keeps.ow h.want ?_, ?_, h.keeps.trans p.keeps ?_, h.lt⟩
  · intro q hq
    rcases p.row with hr | ⟨b, hb, hle⟩
    · exact h.vrow q (hr ▸ hq)
    · rw [hb] at hq; injection hq with hq; have := h.keeps.size; omega
  · intro q hq hf
    rcases hf with rfl | hf
    · have := (h.wrow _ hq).1; omega
    · exact h.apart q hq hf
  · intro q hq hf
    rcases p.row with hr | ⟨b, hb, hle⟩
    · exact h.apart q hq (hr ▸ hf)
    · rw [hb] at hf; injection hf with hf; have := (h.wrow q hq).2; omega
  · rintro i (rfl | hi)
    · exact .inl rfl
    · exact .inr (h.vrow i hi)
theorem SL.app {w1 : World} {g : Nat} {Lw Lv L : List UInt8} {v wv wv1 : Value} {wr w2 : World} (h : SL w1 g Lw Lv v wv wr) (ho : Ow w2 w1.heap.size wv1 L) (hg : wr.grownBy w2 wv.ownBlock)
    (hat : wv1.ownBlock = wv.ownBlock ∨ ∃ b, wv1.ownBlock = some b ∧ wr.heap.size ≤ b) : SL w1 g Lw L v wv1 w2 := by
  have hl := h.lt
  have k := Keeps.of_grown hg
  refine ⟨h.is.kept k (fun e => by have := (h.wrow g e).1; omega) (fun q hq e => h.apart q e hq), h.vrow, ho, ?_, h.keeps.trans k (fun i hi => .inr (h.wrow i hi).1), h.lt⟩
  intro q hq hf
  rcases hat with hr | ⟨b, hb, hle⟩
  · exact h.apart q (hr ▸ hq) hf
  · rw [hb] at hq; injection hq with hq; have := h.is.rowlt q hf; omega
theorem SL.other {w1 : World} {g : Nat} {Lw Lv : List UInt8} {v wv : Value} {wr w2 : World} {S : Nat → Prop} (h : SL w1 g Lw Lv v wv wr) (k : Keeps S wr w2)
    (hS : ∀ q, S q → w1.heap.size ≤ q ∧ v.ownBlock ≠ some q ∧ wv.ownBlock ≠ some q) : SL w1 g Lw Lv v wv w2 := by
  have hl := h.lt
  exact ⟨h.is.kept k (fun e => by have := (hS g e).1; omega) (fun q hq e => (hS q e).2.1 hq), h.vrow, k.ow h.want (fun q hq e => (hS q e).2.2 hq), h.apart, h.keeps.trans k (fun i hi => .inr (hS i hi).1), h.lt⟩

def wantF (F : List Pce) (k : Nat) : List UInt8 := (F.take k).flatMap formP
theorem wantF_zero (F : List Pce) : wantF F 0 = [] := by simp [wantF]
theorem wantF_succ (F : List Pce) (k : Nat) (h : k < F.length) : wantF F (k + 1) = wantF F k ++ formP F[k] := by
  unfold wantF; rw [take_snoc F k h, List.flatMap_append, List.flatMap_cons, List.flatMap_nil, List.append_nil]
theorem fewP_text (l : List Pce) (m : Nat) : ∀ p ∈ fewP l m, p.text.size ≤ 100 := by
  intro p hp
  simp only [fewP, List.mem_map] at hp
  obtain ⟨q, _, rfl⟩ := hp
  show (q.text.extract 0 (min q.text.size 100)).size ≤ 100
  simp only [ByteArray.size_extract]
  omega
theorem fewP_ok (l : List Pce) (m : Nat) (h : ∀ p ∈ l, p.Ok) : ∀ p ∈ fewP l m, p.Ok := by
  intro p hp
  have ht := fewP_text l m p hp
  simp only [fewP, List.mem_map] at hp
  obtain ⟨q, hq, rfl⟩ := hp
  have := h q (List.mem_of_mem_take hq)
  exact ⟨this.lo, this.hi, this.num, by omega⟩
theorem fewP_len (l : List Pce) (m : Nat) : (fewP l m).length ≤ m := by simp [fewP]; omega
theorem wantF_len (F : List Pce) (h : ∀ p ∈ F, p.text.size ≤ 100) (k : Nat) : (wantF F k).length ≤ 102 * k := by
  induction k with
  | zero => simp [wantF]
  | succ k ih =>
    by_cases hk : k < F.length
    · rw [wantF_succ F k hk, List.length_append]
      have := formP_len F[k] (h _ (List.getElem_mem hk))
      omega
    · have : wantF F (k + 1) = wantF F k := by unfold wantF; rw [List.take_of_length_le (by omega), List.take_of_length_le (by omega)]
      rw [this]; omega
/-- A row of pieces that the call has made reads as these. -/
theorem csP_len (F : List Pce) : (csP F).length = F.length * 3 := by
  induction F with
  | nil => rfl
  | cons p F ih =>
    have e : csP (p :: F) = p.cs ++ csP F := by simp [csP]
    rw [e, List.length_append, ih, List.length_cons]
    show 3 + _ = _
    omega
theorem csP_reps (F : List Pce) : Reps RPc 3 F (csP F) := by
  induction F with
  | nil => exact Reps.none _ _
  | cons p F ih =>
    refine ⟨csP_len _, ?_⟩
    intro j q hj
    cases j with
    | zero => simp at hj; subst hj; rfl
    | succ j =>
      have h := ih.2 j q (by simpa using hj)
      have e : (csP (p :: F)).drop ((j + 1) * 3) = (csP F).drop (j * 3) := by
        rw [show (j + 1) * 3 = 3 + j * 3 by omega]
        simp only [csP, List.flatMap_cons]
        rw [← List.drop_drop]; rfl
      rw [e]; exact h

set_option maxRecDepth 100000 in
set_option maxHeartbeats 6400000 in
theorem scribeLays_walk (w : World) (A : Option Addr) (n c : Nat) (l : List Pce) (hR : RdP w A n l) (hok : ∀ p ∈ l, p.Ok) (hT : Tabb w) :
    Calls Tryd.prog 4 #[.slice A n c] w fun e w' => e = .returned (.bool true) ∧ Keeps No w w' := by
  have HT := Lib.hid hT
  have HR := Lib.hid hR
  have HOK := Lib.hid hok
  clear hT hR hok
  go_enter Tryd.func4, Tryd.ntmps4
  go_wp2_with fail
  refine (few_any _ A n c l (by exact HR.out.imp_ (((Keeps.refl No w).alloc _).below') (fun _ _ h => h)) HOK.out 30 (by omega)).mono ?_
  rintro e w1 ⟨r, rfl, ho, hk⟩
  have hkw := Lib.hid (((Keeps.refl No w).alloc _).then hk)
  obtain ⟨Af, cf, rfl, hfr⟩ := own_reads_row ho (csP_reps (fewP l 30)) rfl
  have HSL := Lib.hid (show SL w1 w.heap.size [] [] (.slice none 0 0) (.slice none 0 0) w1 from
    ⟨(isW_new w w.heap.size (Nat.le_refl _)).keptNo hk, fun q hq => (by cases hq), Ow.nil _ _, fun q hq => (by cases hq), Keeps.refl _ _, by have := hk.size; simp at this; omega⟩)
  have HFL := Lib.hid (fewP_len l 30)
  have HFT := Lib.hid (fewP_text l 30)
  have HFO := Lib.hid (fewP_ok l 30 HOK.out)
  have HBL := Lib.hid (show ∀ ad, Af = some ad → ad.block ≠ w.heap.size from fun ad had e => by
    have := own_base ho ad.block (by rw [had]; rfl)
    simp at this; omega)
  generalize fewP l 30 = F at *
  have HFR := Lib.hid hfr
  have hF30 : F.length ≤ 30 := HFL.out
  clear ho hk hfr
  go_wp2
  go_loopw [4, 5, 14] (fun pv wv iv wr => ∃ k : Nat, ∃ v : Value, k ≤ F.length ∧ iv = .int .i64 k ∧ pv = .pointer (some ⟨w.heap.size, 0, none⟩) ∧ SL w1 w.heap.size (wantF F k) (wantF F k) v wv wr) (fun _ _ iv _ => F.length - (intOf iv).toNat)
  case atStart => exact ⟨0, _, by omega, rfl, rfl, by rw [wantF_zero]; exact HSL.out⟩
  case round =>
    obtain ⟨k, v, hk, rfl, rfl, hs⟩ := hrel
    have HS := Lib.hid hs
    clear hs
    by_cases hkF : k < F.length
    · obtain ⟨ad, hAf, hcell⟩ := HFR.out.2.2 (by omega)
      obtain ⟨cs, _, hcsP, hcc⟩ := hcell k F[k] (List.getElem?_eq_getElem hkF)
      have HPO := Lib.hid (HFO.out F[k] (List.getElem_mem hkF))
      have HPT := Lib.hid (HFT.out F[k] (List.getElem_mem hkF))
      have HW := Lib.hid (wantF_succ F k hkF)
      have hwl := wantF_len F HFT.out k
      have hadb : ∀ j, (ad.add j).block ≠ w.heap.size := fun j => by
        have hb : (ad.add j).block = ad.block := by unfold Addr.add; split <;> rfl
        rw [hb]; exact HBL.out ad hAf
      generalize F[k] = p at *
      have hc0 := HS.out.keeps.cell (hcc 0 (.int .i64 p.what) (by rw [hcsP]; rfl)) (hadb _)
      have hc1 := HS.out.keeps.cell (hcc 1 (.int .u64 p.n) (by rw [hcsP]; rfl)) (hadb _)
      have hc2 := HS.out.keeps.cell (hcc 2 (.string p.text) (by rw [hcsP]; rfl)) (hadb _)
      rw [Nat.add_zero] at hc0
      rw [add_field _ _ _ (by omega)] at hc1 hc2
      have hwsz := HS.out.keeps.size
      have hlt := HS.out.lt
      clear hcc hcell hcsP hadb
      subst hAf
      have HS1 := Lib.hid (HS.out.no ((Keeps.refl No wr).alloc (.cells #[.int .i64 p.what, .int .u64 p.n, .string p.text] 35)))
      go_wp2_with fail
      refine (lay_any _ _ _ v (wantF F k) p HPO.out HPT.out HS1.out.is (by simp; omega) (by omega)).mono ?_
      rintro e w2 ⟨rfl, v1, h2⟩
      have HS2 := Lib.hid (HS1.out.lay h2)
      have hbx : ¬ Wf w.heap.size v wr.heap.size := by
        rintro (e | e)
        · omega
        · have := HS.out.is.rowlt _ e; omega
      have d0 : w2.cell? ⟨wr.heap.size, 0, none⟩ = some (.int .i64 p.what) := h2.keeps.cell (by rw [blk_cell (heap_alloc_new wr _)]; rfl) hbx
      have d1 : w2.cell? ⟨wr.heap.size, 1, none⟩ = some (.int .u64 p.n) := h2.keeps.cell (by rw [blk_cell (heap_alloc_new wr _)]; rfl) hbx
      have d2 : w2.cell? ⟨wr.heap.size, 2, none⟩ = some (.string p.text) := h2.keeps.cell (by rw [blk_cell (heap_alloc_new wr _)]; rfl) hbx
      have hsz2 := h2.keeps.size
      simp only [World.size_alloc] at hsz2
      clear h2 hbx
      go_wp2_with fail
      refine (form_any _ p HPO.out HPT.out).mono ?_
      rintro e w3 ⟨Ab, nb, cb, rfl, h3r, h3k⟩
      have HS3 := Lib.hid (HS2.out.no h3k)
      have H3R := Lib.hid h3r
      have hsz3 := h3k.size
      have hfl := formP_len p HPT.out
      have hnb : nb ≤ 102 := by have := h3r.1; omega
      clear h3r h3k hfl
      go_wp2_with (at_builtin; refine print_append_row_of B8 0 w1.heap.size rfl (.tmp 21) (.tmp 23) 22 5 (.int .u8 0) 1 rfl Tryd.underlying22 Tryd.info5 rfl (by decide) B8_one u5 (wantF F k) (formP p) Ab nb cb rfl rfl (by exact HS3.out.want) (by exact H3R.out) (Below.refl _ _) (by omega) (by omega) ?_; intro wv1 w4 hown hB hgr hat0)
      have hS4 : SL w1 w.heap.size (wantF F k ++ formP p) (wantF F k ++ formP p) v1 wv1 w4 := HS3.out.app hown hgr hat0
      have hsz4 := hgr.size
      have hw4l : (wantF F k ++ formP p).length ≤ 100000 := by rw [List.length_append]; have := formP_len p HPT.out; omega
      rw [← HW.out] at hS4 hw4l
      have HS4 := Lib.hid hS4
      clear hS4 hown hB hgr hat0
      have HLG := Lib.hid (show ∃ L, L = wantF F (k + 1) from ⟨_, rfl⟩)
      obtain ⟨L, hL⟩ := HLG.out
      rw [← hL] at HS4 hw4l
      have HL := Lib.hid hL
      clear hL HLG HW
      go_wp2_with fail
      refine (wdone_ok _ _ _ v1 L HS4.out.is (by omega) (by omega)).mono ?_
      rintro e w5 ⟨r, v2, rfl, h5⟩
      have HS5 := Lib.hid (HS4.out.lay h5.post)
      have HRB := Lib.hid (show ∀ q, r.ownBlock = some q → w1.heap.size ≤ q ∧ v2.ownBlock ≠ some q ∧ wv1.ownBlock ≠ some q from fun q hq => by
        have hb := own_base h5.row q hq
        exact ⟨by omega, h5.apart q hq, fun e => by have := (HS4.out.wrow q e).2; omega⟩)
      obtain ⟨A6, c6, rfl, _, hR6⟩ := h5.row.rd
      obtain ⟨A5, c5, rfl, _, hR5⟩ := HS5.out.want.rd
      have HRO := Lib.hid h5.row
      have HR5 := Lib.hid hR5
      have HR6 := Lib.hid hR6
      have hsz5 := h5.post.keeps.size
      clear h5 hR5 hR6
      have hLL : (L == L) = true := by simp
      go_wp2_with fail
      refine (bequal_any _ _ _ _ _ _ _ L L HR6.out HR5.out).mono ?_
      rintro e w6 ⟨rfl, rfl⟩
      go_wp2
      go_loopw [40] (fun iv wq => ∃ j : Nat, ∃ m : List UInt8, j ≤ L.length ∧ m.length = L.length ∧ iv = .int .i64 j ∧ wq.ownsRow w4.heap.size 5 1 (.slice A6 L.length c6) L.length (encs B8 m) ∧ Keeps (fun q => (Value.slice A6 L.length c6).ownBlock = some q) w5 wq) (fun iv _ => L.length - (intOf iv).toNat)
      case atStart => exact ⟨0, L, by omega, rfl, rfl, HRO.out, Keeps.refl _ _⟩
      case round =>
        obtain ⟨j, m, hj, hm, rfl, ho, hkq⟩ := hrel
        have HO := Lib.hid ho
        have HKQ := Lib.hid hkq
        have HM := Lib.hid hm
        clear ho hkq hm
        by_cases hjL : j < L.length
        · obtain ⟨h, cap, hv, _, _⟩ := HO.out.form (by omega)
          have hA6 : A6 = some ⟨h, 0, none⟩ := by injection hv
          have hc6 : c6 = cap := by injection hv
          subst hc6
          subst hA6
          clear hv
          have hcl := (own_at_of (d := (0 : UInt8)) HO.out ((j : Nat) : Int) (by omega) (by omega)).1
          have hcf := (own_at_of (d := (0 : UInt8)) HO.out ((j : Nat) : Int) (by omega) (by omega)).2
          simp only [Int.toNat_natCast, rdOf, B8] at hcl hcf
          have HF := Lib.hid (show m.set j (m.getD j 0 + 1) = m.set j (m.getD j 0 + 1) from rfl)
          generalize m.getD j 0 = b at *
          have hb := b.toNat_lt
          have hbv : Value.int .u8 (((b.toNat : Int) + 1) % 256) = B8 (b + 1) := by
            rw [B8, UInt8.toNat_add]; congr 1
          have HBV := Lib.hid hbv
          clear hbv
          go_wp2
          go_roundw
          case rel =>
            refine ⟨j + 1, m.set j (b + 1), by omega, by rw [List.length_set]; exact HM.out, by go_num, ?_, HKQ.out.setCell (p := ⟨h, j, none⟩) (.inl rfl) _⟩
            have hs := (own_store_of HO.out ((j : Nat) : Int) (b + 1)).1
            rw [Int.toNat_natCast, ← HBV.out] at hs
            exact hs
          case measure => simp [intOf]; omega
        · go_wp2
          go_roundw
          case rel =>
            refine ⟨k + 1, v2, by omega, by go_num, rfl, ?_⟩
            rw [← HL.out]
            exact HS5.out.other HKQ.out HRB.out
          case measure => simp [intOf]; omega
    · have HK9 := Lib.hid (hkw.out.trans HS.out.keeps (fun i hi => .inr (by omega)))
      have HT9 := Lib.hid ((HT.out.keptNo hkw.out).kept HS.out.keeps (by have := HT.out.lt; omega))
      go_wp2_with fail
      refine (wakes_any _ HT9.out).mono ?_
      rintro e w5 ⟨rfl, hk5⟩
      have HK5 := Lib.hid hk5
      clear hk5
      go_wp2
      go_ret
      exact ⟨rfl, HK9.out.then HK5.out⟩
end Go.Proofs.YtieipnnpkngegaaDoor
