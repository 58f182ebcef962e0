/- The walk of the law ScribeBack. -/
import Derived.Test.YtieipnnpkngegaaDoorBk
namespace Go.Proofs.YtieipnnpkngegaaDoor
open Go.RowKit Go.Proofs.YtieipnnpkngegaaDoorW.PrintWords

/-- The writer at g holds Lw, the row ev beside it the numbers xs; of what was there at w1 the writer alone may have turned. -/
structure BL (w1 : World) (g : Nat) (Lw : List UInt8) (v ev : Value) (xs : List Value) (wr : World) : Prop where
  is : IsW wr g g v Lw 0
  vrow : ∀ q, v.ownBlock = some q → w1.heap.size ≤ q
  ends : wr.ownsRow w1.heap.size 3 1 ev xs.length xs
  apart : ∀ q, ev.ownBlock = some q → v.ownBlock ≠ some q
  keeps : Keeps (fun q => q = g) w1 wr
  lt : g < w1.heap.size
theorem BL.erow {w1 : World} {g : Nat} {Lw : List UInt8} {v ev : Value} {xs : List Value} {wr : World} (h : BL w1 g Lw v ev xs wr) (q : Nat) (hq : ev.ownBlock = some q) : w1.heap.size ≤ q ∧ q < wr.heap.size := ⟨own_base h.ends q hq, own_lt h.ends q hq⟩
theorem BL.no {w1 : World} {g : Nat} {Lw : List UInt8} {v ev : Value} {xs : List Value} {wr w2 : World} (h : BL w1 g Lw v ev xs wr) (k : Keeps No wr w2) : BL w1 g Lw v ev xs w2 :=
  ⟨h.is.keptNo k, h.vrow, k.own h.ends (fun _ _ h => h), h.apart, h.keeps.then k, h.lt⟩
theorem BL.lay {w1 : World} {g : Nat} {Lw L : List UInt8} {v ev v1 : Value} {xs : List Value} {wr w2 : World} (h : BL w1 g Lw v ev xs wr) (p : WPost wr g g v L 0 w2 v1) : BL w1 g L v1 ev xs w2 := by
  have hl := h.lt
  refine ⟨p.is, ?_, p.keeps.own h.ends ?_, ?_, h.keeps.trans p.keeps ?_, h.lt⟩
  · intro q hq
    rcases p.row with hr | ⟨b, hb, hle⟩
    · exact h.vrow q (hr ▸ hq)
    · rw [hb] at hq; injection hq with hq; have := h.keeps.size; omega
  · intro q hq hf
    rcases hf with rfl | hf
    · have := (h.erow _ hq).1; omega
    · exact h.apart q hq hf
  · intro q hq hf
    rcases p.row with hr | ⟨b, hb, hle⟩
    · exact h.apart q hq (hr ▸ hf)
    · rw [hb] at hf; injection hf with hf; have := (h.erow q hq).2; omega
  · rintro i (rfl | hi)
    · exact .inl rfl
    · exact .inr (h.vrow i hi)
theorem BL.app {w1 : World} {g : Nat} {Lw : List UInt8} {v ev ev1 : Value} {xs ys : List Value} {wr w2 : World} (h : BL w1 g Lw v ev xs wr) (ho : w2.ownsRow w1.heap.size 3 1 ev1 ys.length ys) (hg : wr.grownBy w2 ev.ownBlock)
    (hat : ev1.ownBlock = ev.ownBlock ∨ ∃ b, ev1.ownBlock = some b ∧ wr.heap.size ≤ b) : BL w1 g Lw v ev1 ys w2 := by
  have hl := h.lt
  have k := Keeps.of_grown hg
  refine ⟨h.is.kept k (fun e => by have := (h.erow g e).1; omega) (fun q hq e => h.apart q e hq), h.vrow, ho, ?_, h.keeps.trans k (fun i hi => .inr (h.erow i hi).1), h.lt⟩
  intro q hq hf
  rcases hat with hr | ⟨b, hb, hle⟩
  · exact h.apart q (hr ▸ hq) hf
  · rw [hb] at hq; injection hq with hq; have := h.is.rowlt q hf; omega
/-- The lengths at each piece's end. -/
def endsN (F : List Pce) (k : Nat) : List Nat := (List.range k).map fun i => (wantF F (i + 1)).length
def E64 (n : Nat) : Value := .int .i64 n
def endsV (F : List Pce) (k : Nat) : List Value := encs E64 (endsN F k)
theorem endsV_len (F : List Pce) (k : Nat) : (endsV F k).length = k := by simp [endsV, encs, endsN]
theorem endsV_succ (F : List Pce) (k : Nat) : endsV F (k + 1) = endsV F k ++ [.int .i64 (wantF F (k + 1)).length] := by simp [endsV, encs, endsN, E64, List.range_succ]
theorem endsN_at (F : List Pce) (k j : Nat) (h : j < k) : rdOf 0 (endsN F k) (j : Int) = (wantF F (j + 1)).length := by simp [rdOf, endsN, h]
theorem Tryd.info3 : (Tryd.prog.info? 3).map (fun i => (i.zero, i.size, i.bytes)) = some (some (.int .i64 0), 1, 8) := by kernel_rfl

set_option maxRecDepth 100000 in
set_option maxHeartbeats 6400000 in
theorem scribeBack_walk (w : World) (A : Option Addr) (n c : Nat) (l : List Pce) (hR : RdP w A n l) (hok : ∀ p ∈ l, p.Ok) (cut : Nat) (hcut : cut < 65536) (hT : Tabb w) :
    Calls Tryd.prog 7 #[.slice A n c, .int .u16 cut] w fun e w' => e = .returned (.bool true) ∧ Keeps No w w' := by
  have HT := Lib.hid hT
  have HR := Lib.hid hR
  have HOK := Lib.hid hok
  clear hT hR hok
  go_enter Tryd.func7, Tryd.ntmps7
  go_wp2_with fail
  refine (few_any _ A n c l (by exact HR.out) HOK.out 20 (by omega)).mono ?_
  rintro e w1 ⟨r, rfl, ho, hk⟩
  obtain ⟨Af, cf, rfl, hfr⟩ := own_reads_row ho (csP_reps (fewP l 20)) rfl
  have HFL := Lib.hid (fewP_len l 20)
  have HFT := Lib.hid (fewP_text l 20)
  have HFO := Lib.hid (fewP_ok l 20 HOK.out)
  have HFB := Lib.hid (show ∀ ad, Af = some ad → ad.block < w1.heap.size from fun ad had => own_lt ho ad.block (by rw [had]; rfl))
  have HK1 := Lib.hid hk
  generalize fewP l 20 = F at *
  have hF20 : F.length ≤ 20 := HFL.out
  have HFR0 := Lib.hid hfr
  clear ho hk hfr
  go_wp2
  have hw2k := (Keeps.refl No w1).alloc (.cells #[.slice none 0 0, .int .i64 0] 30)
  have hw2s : (w1.alloc (.cells #[.slice none 0 0, .int .i64 0] 30)).heap.size = w1.heap.size + 1 := by simp
  have hnew := isW_new w1 w1.heap.size (Nat.le_refl _)
  generalize hgg : w1.heap.size = g at *
  generalize w1.alloc (.cells #[.slice none 0 0, .int .i64 0] 30) = w2 at *
  have HFR := Lib.hid (show RdP w2 Af F.length F from HFR0.out.imp_ hw2k.below' (fun _ _ h => h))
  have HBL := Lib.hid (show BL w2 g (wantF F 0) (.slice none 0 0) (.slice none 0 0) (endsV F 0) w2 from
    ⟨by rw [wantF_zero]; exact hnew, fun q hq => (by cases hq), own_nil _ _ _ _, fun q hq => (by cases hq), Keeps.refl _ _, by omega⟩)
  have HKW := Lib.hid (HK1.out.then hw2k)
  clear hw2k hnew
  go_loopw [6, 7, 26] (fun pv ev iv wr => ∃ k : Nat, ∃ v : Value, k ≤ F.length ∧ iv = .int .i64 k ∧ pv = .pointer (some ⟨g, 0, none⟩) ∧ BL w2 g (wantF F k) v ev (endsV F k) wr) (fun _ _ iv _ => F.length - (intOf iv).toNat)
  case atStart => exact ⟨0, _, by omega, rfl, rfl, HBL.out⟩
  case round =>
    obtain ⟨k, v, hk, rfl, rfl, hs⟩ := hrel
    have HS := Lib.hid hs
    clear hs
    by_cases hkF : k < F.length
    · obtain ⟨ad, hAf, hcell⟩ := HFR.out.2.2 (by omega)
      obtain ⟨cs, _, hcsP, hcc⟩ := hcell k F[k] (List.getElem?_eq_getElem hkF)
      have HPO := Lib.hid (HFO.out F[k] (List.getElem_mem hkF))
      have HPT := Lib.hid (HFT.out F[k] (List.getElem_mem hkF))
      have HW := Lib.hid (wantF_succ F k hkF)
      have HES := Lib.hid (endsV_succ F k)
      have hwl := wantF_len F HFT.out k
      have hadb : ∀ j, (ad.add j).block ≠ g := fun j => by
        have hb : (ad.add j).block = ad.block := by unfold Addr.add; split <;> rfl
        rw [hb]; have := HFB.out ad hAf; omega
      generalize F[k] = p at *
      have hc0 := HS.out.keeps.cell (hcc 0 (.int .i64 p.what) (by rw [hcsP]; rfl)) (hadb _)
      have hc1 := HS.out.keeps.cell (hcc 1 (.int .u64 p.n) (by rw [hcsP]; rfl)) (hadb _)
      have hc2 := HS.out.keeps.cell (hcc 2 (.string p.text) (by rw [hcsP]; rfl)) (hadb _)
      rw [Nat.add_zero] at hc0
      rw [add_field _ _ _ (by omega)] at hc1 hc2
      have hwsz := HS.out.keeps.size
      have hlt := HS.out.lt
      clear hcc hcell hcsP hadb
      subst hAf
      have HS1 := Lib.hid (HS.out.no ((Keeps.refl No wr).alloc (.cells #[.int .i64 p.what, .int .u64 p.n, .string p.text] 35)))
      have hfl := formP_len p HPT.out
      go_wp2_with fail
      refine (lay_any _ _ _ v (wantF F k) p HPO.out HPT.out HS1.out.is (by simp; omega) (by omega)).mono ?_
      rintro e w3 ⟨rfl, v1, h2⟩
      have HS2 := Lib.hid (HS1.out.lay h2)
      have hsz2 := h2.keeps.size
      simp only [World.size_alloc] at hsz2
      have hLL : (wantF F k ++ formP p).length ≤ 100000 := by rw [List.length_append]; omega
      clear h2
      go_wp2_with fail
      refine (wdone_ok _ _ _ v1 (wantF F k ++ formP p) HS2.out.is (by omega) (by omega)).mono ?_
      rintro e w5 ⟨r, v2, rfl, h5⟩
      have HS5 := Lib.hid (HS2.out.lay h5.post)
      obtain ⟨A6, c6, rfl, _, _⟩ := h5.row.rd
      have hsz5 := h5.post.keeps.size
      clear h5
      rw [← HW.out] at hLL
      have hHL : (wantF F k ++ formP p).length = (wantF F (k + 1)).length := by rw [HW.out]
      have HS6 := Lib.hid (show BL w2 g (wantF F (k + 1)) v2 _ (endsV F k) w5 from HW.out ▸ HS5.out)
      simp only [hHL]
      clear hHL
      have HO6 := Lib.hid (HS6.out.ends)
      go_wp2_with (at_builtin; refine app_cells w2.heap.size w5.heap.size rfl (.tmp 38) (.tmp 41) 61 3 (.int .i64 0) 1 8 rfl Tryd.underlying61 Tryd.info3 rfl (by decide) (by decide) _ (endsV F k).length (endsV F k) [.int .i64 (wantF F (k + 1)).length] rfl rfl rfl rfl (by intro u hu; simp at hu; subst hu; rfl) (by exact HO6.out) (Below.refl _ _) (by omega) (by rw [endsV_len]; omega) ?_; intro v1 w6 hown hB hgr hat)
      have HS7 := Lib.hid (show BL w2 g (wantF F (k + 1)) v2 v1 (endsV F (k + 1)) w6 from by
        have hx := HS6.out
        rw [HES.out]
        exact hx.app (by rw [List.length_append]; exact hown) hgr hat)
      clear hown hB hgr hat
      go_wp2
      go_roundw
      case rel => exact ⟨k + 1, v2, by omega, by go_num, rfl, HS7.out⟩
      case measure => simp [intOf]; omega
    · have hkk : k = F.length := by omega
      subst hkk
      have hwl := wantF_len F HFT.out F.length
      have HSW := Lib.hid (show ∃ L, L = wantF F F.length from ⟨_, rfl⟩)
      obtain ⟨L, hL⟩ := HSW.out
      have HL := Lib.hid hL
      have HS1 := Lib.hid (show BL w2 g L v _ (endsV F F.length) wr from hL ▸ HS.out)
      rw [← hL] at hwl
      clear hL HSW HS
      have hwsz := HS1.out.keeps.size
      go_wp2_with fail
      refine (wdone_ok _ _ _ v L HS1.out.is (by omega) (by omega)).mono ?_
      rintro e w5 ⟨r, v2, rfl, h5⟩
      have HS5 := Lib.hid (HS1.out.lay h5.post)
      obtain ⟨A6, c6, rfl, hc6, hR6⟩ := h5.row.rd
      have HR6 := Lib.hid hR6
      have hsz5 := h5.post.keeps.size
      have HR6B := Lib.hid (show ∀ ad, A6 = some ad → ad.block < w5.heap.size ∧ wr.heap.size ≤ ad.block from fun ad h => ⟨own_lt h5.row ad.block (by rw [h]; rfl), own_base h5.row ad.block (by rw [h]; rfl)⟩)
      clear h5 hR6
      go_wp2_with fail
      refine (new_any _ _ _ _ L HR6.out (by omega)).mono ?_
      rintro e w6 ⟨gr, rfl, hir, hgr, hk6⟩
      have HS6 := Lib.hid (HS5.out.no hk6)
      have HIR := Lib.hid hir
      have HR6b := Lib.hid (hk6.rdNo HR6.out)
      have hsz6 := hk6.size
      clear hir hk6
      go_wp2
      have HCW := Lib.hid (show cutSt F L.length 0 = ⟨L, false⟩ from by rw [cut_zero, ← HL.out]; simp)
      have hgr2 : w2.heap.size ≤ gr := by omega
      go_loopw [53] (fun iv wr => ∃ k : Nat, k ≤ F.length ∧ iv = .int .i64 k ∧ IsR wr gr (cutSt F L.length k) ∧ Keeps (fun q => q = gr) w6 wr) (fun iv _ => F.length - (intOf iv).toNat)
      case atStart => exact ⟨0, by omega, rfl, by rw [HCW.out]; exact HIR.out, Keeps.refl _ _⟩
      case round =>
        obtain ⟨k, hk, rfl, hir, hkr⟩ := hrel
        have HI := Lib.hid hir
        have HKR := Lib.hid hkr
        clear hir hkr
        by_cases hkF : k < F.length
        · obtain ⟨ad, hAf, hpc, hadb⟩ := HFR.out.at k hkF
          have hadg := HFB.out ad hAf
          have HK2 := Lib.hid (HS6.out.keeps.trans HKR.out (fun i hi => .inr (by subst hi; exact hgr2)))
          have hc := hpc.kept HK2.out (by rw [hadb]; exact fun e => by omega)
          have hc0 := hc.c0
          have hc1 := hc.c1
          have hc2 := hc.c2
          have HPO := Lib.hid (HFO.out F[k] (List.getElem_mem hkF))
          have HST := Lib.hid (cut_step F HFO.out HFT.out L.length k hkF)
          have hcl := cut_len F L.length k
          rw [← HL.out] at hcl
          have hio := HST.out.2 (by rw [HL.out]; exact cut_le F _ (by omega))
          have HIS := Lib.hid HST.out.1
          have HWH := Lib.hid (show cutSt F L.length (k + 1) = ⟨L.drop (wantF F (k + 1)).length, false⟩ from by rw [HL.out]; exact cut_whole F _ (by omega))
          have HN := Lib.hid ((Keeps.refl No wr).alloc (.cells #[.int .i64 F[k].what, .int .u64 F[k].n, .string F[k].text] 35))
          have HI1 := Lib.hid (HI.out.keptNo HN.out)
          clear hpc hc HST hadb
          generalize F[k] = p at *
          subst hAf
          generalize cutSt F L.length k = sk at *
          go_wp2_with fail
          refine (is_any _ _ _ HI1.out (by omega) p HPO.out).mono ?_
          rintro e w7 ⟨rfl, hp7⟩
          rw [hio]
          have HP7 := Lib.hid hp7
          have HI7 := Lib.hid (show IsR w7 gr ⟨L.drop (wantF F (k + 1)).length, false⟩ from by have := hp7.is; rw [HIS.out, HWH.out] at this; exact this)
          clear hp7 hio
          go_wp2_with fail
          refine (rerr_any _ _ _ HI7.out).mono ?_
          rintro e w8 ⟨rfl, rfl⟩
          rw [show errOf ⟨L.drop (wantF F (k + 1)).length, false⟩ = 0 from rfl]
          go_wp2
          go_roundw
          case rel => exact ⟨k + 1, by omega, by go_num, by rw [HWH.out]; exact HI7.out, HKR.out.trans (HP7.out.before HN.out).keeps (fun i h => .inl h)⟩
          case measure => simp [intOf]; omega
        · have hkk : k = F.length := by omega
          subst hkk
          have HIE := Lib.hid (show IsR wr gr ⟨[], false⟩ from by have h := HI.out; rw [HL.out, cut_whole F _ (Nat.le_refl _), List.drop_length] at h; exact h)
          go_wp2_with fail
          refine (rleft_any _ _ _ HIE.out).mono ?_
          rintro e w8 ⟨rfl, rfl⟩
          rw [show ((⟨[], false⟩ : RS).l.length : Int) = 0 from rfl]
          have HR6w := Lib.hid (HKR.out.rd HR6b.out (fun ad h _ e => by have := (HR6B.out ad h).1; have e : ad.block = gr := e; omega))
          have hmod : ((cut : Int) % ((L.length : Int) + 1)) = ((cut % (L.length + 1) : Nat) : Int) := by exact (Int.natCast_emod cut (L.length + 1)).symm
          have hmle : cut % (L.length + 1) ≤ L.length := by have := Nat.mod_lt cut (show 0 < L.length + 1 by omega); omega
          have HCW := Lib.hid (show cutSt F (cut % (L.length + 1)) 0 = ⟨L.take (cut % (L.length + 1)), false⟩ from by rw [cut_zero, ← HL.out])
          generalize cut % (L.length + 1) = a at *
          have HM := Lib.hid hmle
          go_wp2_with fail
          refine (new_any _ _ _ _ (L.take a) (HR6w.out.take a hmle) (by omega)).mono ?_
          rintro e w9 ⟨gs, rfl, his, hgs, hk9⟩
          have HIS0 := Lib.hid his
          have HK9 := Lib.hid (HKR.out.trans hk9 (fun i hi => hi.elim))
          have hrsz := HKR.out.size
          have hsz9 := hk9.size
          clear his hk9
          go_wp2
          have hgs2 : w2.heap.size ≤ gs := by omega
          go_loopw [86] (fun iv wq => ∃ k : Nat, k ≤ F.length ∧ iv = .int .i64 k ∧ IsR wq gs (cutSt F a k) ∧ Keeps (fun q => q = gs) w9 wq) (fun iv _ => F.length - (intOf iv).toNat)
          case atStart => exact ⟨0, by omega, rfl, by rw [HCW.out]; exact HIS0.out, Keeps.refl _ _⟩
          case round =>
            obtain ⟨k, hk, rfl, hir, hkr⟩ := hrel
            have HI3 := Lib.hid hir
            have HKR3 := Lib.hid hkr
            clear hir hkr
            by_cases hkF : k < F.length
            · obtain ⟨ad, hAf, hpc, hadb⟩ := HFR.out.at k hkF
              have hadg := HFB.out ad hAf
              have HK2 := Lib.hid ((HS6.out.keeps.trans HK9.out (fun i hi => .inr (by subst hi; exact hgr2))).trans HKR3.out (fun i hi => .inr (by subst hi; exact hgs2)))
              have hc := hpc.kept HK2.out (by rw [hadb]; exact fun e => by omega)
              have hc0 := hc.c0
              have hc1 := hc.c1
              have hc2 := hc.c2
              have HPO := Lib.hid (HFO.out F[k] (List.getElem_mem hkF))
              have HST := Lib.hid (cut_step F HFO.out HFT.out a k hkF)
              have hcl := cut_len F a k
              rw [← HL.out] at hcl
              have HIO := Lib.hid (HST.out.2)
              have HIS := Lib.hid HST.out.1
              have HN := Lib.hid ((Keeps.refl No wr).alloc (.cells #[.int .i64 F[k].what, .int .u64 F[k].n, .string F[k].text] 35))
              have HI1 := Lib.hid (HI3.out.keptNo HN.out)
              have HE0 := Lib.hid (HKR3.out.own (HK9.out.own HS6.out.ends (fun q hq e => by have := (HS5.out.erow q hq).2; have e : q = gr := e; omega)) (fun q hq e => by have := (HS6.out.erow q hq).2; have e : q = gs := e; omega))
              obtain ⟨he, ce, hu, _, _⟩ := HE0.out.form (by rw [endsV_len]; omega)
              rw [endsV_len] at hu
              subst hu
              have hcl := (own_at_of (d := (0 : Nat)) (by have h := HE0.out; rw [endsV_len] at h; exact h) ((k : Nat) : Int) (by omega) (by omega)).1
              rw [endsN_at F F.length k hkF] at hcl
              simp only [Int.toNat_natCast, E64] at hcl
              clear hpc hc HST hadb
              generalize F[k] = p at *
              subst hAf
              go_wp2_with fail
              refine (is_any _ _ _ HI1.out (by omega) p HPO.out).mono ?_
              rintro e w10 ⟨rfl, hp7⟩
              have HP7 := Lib.hid (hp7.before HN.out)
              have HI7 := Lib.hid (show IsR w10 gs (cutSt F a (k + 1)) from by have := hp7.is; rw [HIS.out] at this; exact this)
              clear hp7
              have hce := HP7.out.keeps.cell hcl (fun e => by have := (HS6.out.erow he rfl).2; have e : he = gs := e; omega)
              clear hcl
              have HRL := Lib.hid (show ∀ W, IsR W gs (cutSt F a (k + 1)) → Keeps (fun q => q = gs) wr W → (∃ j : Nat, j ≤ F.length ∧ Value.int .i64 (k + 1) = Value.int .i64 j ∧ IsR W gs (cutSt F a j) ∧ Keeps (fun q => q = gs) w9 W) from
                fun W hW hk => ⟨k + 1, by omega, by go_num, hW, HKR3.out.trans hk (fun i h => .inl h)⟩)
              by_cases hend : (wantF F (k + 1)).length ≤ a
              · have hio := HIO.out hend
                rw [hio]
                have HSS := Lib.hid (show ∃ X, cutSt F a (k + 1) = ⟨X, false⟩ from ⟨_, by unfold cutSt; rw [if_pos hend]⟩)
                obtain ⟨X, hX⟩ := HSS.out
                have HX := Lib.hid (show IsR w10 gs ⟨X, false⟩ from hX ▸ HI7.out)
                clear HSS hX hio
                go_wp2
                go_quiet (first | (go_at_call 36; exact rerr_q0 HX.out))
                go_wp2_with fail
                refine (rerr_any _ _ _ (HX.out.drawn _)).mono ?_
                rintro e w11 ⟨rfl, rfl⟩
                rw [show errOf ⟨X, false⟩ = 0 from rfl]
                go_wp2
                go_roundw
                case rel => exact HRL.out _ ((show IsR w10 gs (cutSt F a (k + 1)) from HI7.out).drawn _) (HP7.out.keeps.drewN _)
                case measure => simp [intOf]; omega
              · have HSS := Lib.hid (show cutSt F a (k + 1) = ⟨[], true⟩ from by unfold cutSt; rw [if_neg hend])
                have HX := Lib.hid (show IsR w10 gs ⟨[], true⟩ from HSS.out ▸ HI7.out)
                generalize isO (cutSt F a k) p = whole at *
                go_wp2
                go_quiet (first | (go_at_call 36; exact rerr_q1 HX.out))
                go_wp2_with fail
                refine (rerr_any _ _ _ (HX.out.drawn _)).mono ?_
                rintro e w11 ⟨rfl, rfl⟩
                rw [show errOf ⟨[], true⟩ = 4 from rfl]
                go_wp2_with fail
                refine (rleft_any _ _ _ (HX.out.drawn _)).mono ?_
                rintro e w11 ⟨rfl, rfl⟩
                rw [show ((⟨[], true⟩ : RS).l.length : Int) = 0 from rfl]
                go_wp2_with fail
                refine (short_byte (HX.out.drawn _)).mono ?_
                rintro e w11 ⟨rfl, h11⟩
                have HI11 := Lib.hid h11.is
                have HK11 := Lib.hid ((HP7.out.keeps.drewN _).trans h11.keeps (fun i h => .inl h))
                clear h11
                go_wp2_with fail
                refine (short_text HI11.out).mono ?_
                rintro e w12 ⟨rfl, h12⟩
                have HI12 := Lib.hid h12.is
                have HK12 := Lib.hid (HK11.out.trans h12.keeps (fun i h => .inl h))
                clear h12
                go_wp2_with fail
                refine (short_take HI12.out).mono ?_
                rintro e w13 ⟨A13, c13, rfl, h13⟩
                have HI13 := Lib.hid h13.is
                have HK13 := Lib.hid (HK12.out.trans h13.keeps (fun i h => .inl h))
                clear h13
                go_wp2
                go_roundw
                case rel => exact HRL.out _ (by rw [HSS.out]; exact HI13.out) HK13.out
                case measure => simp [intOf]; omega
            · have HKA := Lib.hid ((HS6.out.keeps.trans HK9.out (fun i hi => .inr (by subst hi; exact hgr2))).trans HKR3.out (fun i hi => .inr (by subst hi; exact hgs2)))
              have HKB := Lib.hid (HKW.out.trans HKA.out (fun i hi => .inr (by have h1 := HK1.out.size; have h2 : i = g := hi; omega)))
              have HT9 := Lib.hid ((HT.out.keptNo HKW.out).kept HKA.out (by have h1 := HK1.out.size; have := HT.out.lt; omega))
              go_wp2_with fail
              refine (wakes_any _ HT9.out).mono ?_
              rintro e w14 ⟨rfl, hk14⟩
              have HK14 := Lib.hid hk14
              clear hk14
              go_wp2
              go_ret
              exact ⟨rfl, HKB.out.then HK14.out⟩
theorem scribeBack_walk' (w : World) (A : Option Addr) (n c : Nat) (l : List Pce) (hR : RdP w A n l) (hok : ∀ p ∈ l, p.Ok) (cut : Int) (h0 : 0 ≤ cut) (h1 : cut < 65536) (hT : Tabb w) :
    Calls Tryd.prog 7 #[.slice A n c, .int .u16 cut] w fun e w' => e = .returned (.bool true) ∧ Keeps No w w' := by
  obtain ⟨k, rfl⟩ := Int.eq_ofNat_of_zero_le h0
  exact scribeBack_walk w A n c l hR hok k (by omega) hT
end Go.Proofs.YtieipnnpkngegaaDoor
