/- Decode: the document's. -/
import Derived.Test.YtieipnnpkngegaaDoorDq
import Derived.Test.YtieipnnpkngegaaDoorDw
import Derived.Test.YtieipnnpkngegaaDoorRf
import Derived.StillTailTactics
namespace Go.Proofs.YtieipnnpkngegaaDoor
open Go.RowKit Go.Proofs.YtieipnnpkngegaaDoorW.PrintWords

/-- What the document's Decode tells, in new memory. -/
def RDecEnd (w : World) (l : List UInt8) (x : Ending) (w' : World) : Prop := ∃ r, x = .returned (.tuple #[.agg ((decF l).rs r), .int .u64 (decT l : Nat), .int .i64 (decE l)]) ∧ CPost w (decF l).pl w' r
theorem keeps_eq {a b : World} (h : a = b) : Keeps No a b := h ▸ Keeps.refl No a
theorem heap_drew (X : World) : X.drew.heap = X.heap := rfl
theorem stF_heapd {w : World} {b : Nat} {u0 u1 u2 u3 u4 u5 u6 : Value} {t : TypeId} (h : w.heap[b]? = some (.cells #[u0, u1, u2, u3, u4, u5, u6] t (0, 0))) (v0 v1 v2 v3 v4 v5 v6 : Value) :
    ((stF w b v0 v1 v2 v3 v4 v5 v6).drew).heap[b]? = some (.cells #[v0, v1, v2, v3, v4, v5, v6] t (0, 0)) := by
  rw [heap_drew]
  exact stF_heap h v0 v1 v2 v3 v4 v5 v6
theorem stF_drew (w : World) (b : Nat) (v0 v1 v2 v3 v4 v5 v6 : Value) : Keeps (fun q => q = b) w (stF w b v0 v1 v2 v3 v4 v5 v6).drew := (stF_keeps w b v0 v1 v2 v3 v4 v5 v6).drew
theorem natBE_one (l : List UInt8) (h : 0 < l.length) : natBE (l.take 1) = (l.getD 0 0).toNat := by
  cases l with
  | nil => cases h
  | cons a l => simp [natBE]
theorem natBE_16 (l : List UInt8) (a : Nat) : natBE ((l.drop a).take 2) < 65536 := by
  have h := natBE_lt ((l.drop a).take 2)
  exact Nat.lt_of_lt_of_le h (Nat.le_trans (Nat.pow_le_pow_right (by omega) (by simp; omega : ((l.drop a).take 2).length ≤ 2)) (by decide))
theorem natBE_32 (l : List UInt8) (a : Nat) : natBE ((l.drop a).take 4) < 4294967296 := by
  have h := natBE_lt ((l.drop a).take 4)
  exact Nat.lt_of_lt_of_le h (Nat.le_trans (Nat.pow_le_pow_right (by omega) (by simp; omega : ((l.drop a).take 4).length ≤ 4)) (by decide))
set_option linter.unusedSimpArgs false in
set_option maxRecDepth 100000 in
set_option maxHeartbeats 12800000 in
theorem refdecode_any (w : World) (A : Option Addr) (n c : Nat) (l : List UInt8) (hR : Rd w A n l) (hc : n ≤ c) (hn : n ≤ 140737488355328) :
    Calls Tryd.prog 52 #[.slice A n c] w (RDecEnd w l) := by
  have hln := hR.len
  have HR := Lib.hid hR
  clear hR
  have K0 := Lib.hid ((Keeps.refl No w).alloc (.cells #[.int .i64 0, .int .u32 0, .int .u32 0, .int .u32 0, .int .u32 0, .int .u32 0, .slice none 0 0] 70))
  have hnew := heap_alloc_new w (.cells #[.int .i64 0, .int .u32 0, .int .u32 0, .int .u32 0, .int .u32 0, .int .u32 0, .slice none 0 0] 70)
  have s0 : (w.alloc (.cells #[.int .i64 0, .int .u32 0, .int .u32 0, .int .u32 0, .int .u32 0, .int .u32 0, .slice none 0 0] 70)).heap.size = w.heap.size + 1 := by simp
  have HNE := Lib.hid hnew
  clear hnew
  by_cases h35 : n < 35
  · have HE := Lib.hid (show decE l = 4 from by unfold decE; rw [if_pos (by omega)])
    go_enter Tryd.func52, Tryd.ntmps52
    go_wp2
    refine bodyPost_ret (v := .tuple #[.agg #[.int .i64 0, .int .u32 0, .int .u32 0, .int .u32 0, .int .u32 0, .int .u32 0, .slice none 0 0], .int .u64 0, .int .i64 4]) (by simp [results, Tryd.results52, go_sem]) rfl ?_
    have hne : decE l ≠ 0 := by rw [HE.out]; decide
    exact ⟨.slice none 0 0, by rw [decF_bad hne, decT_bad hne, HE.out]; rfl, by rw [decF_bad hne]; exact Ow.nil _ _, K0.out⟩
  · obtain ⟨ad, rfl, hcell0⟩ := HR.out.at 0 (by omega)
    have HCE := Lib.hid hcell0
    clear hcell0
    obtain ⟨A2, hcut2, hA2⟩ := mid_cut (some ad) n c 21 2 (by omega) hc
    have hcut2 : ∀ W : World, (Instr.slice 22 (.slice (some ad) n c) (some (.int .i64 21)) (some (.int .i64 23)) none).run Tryd.prog W = .ok (.slice A2 2 (c - 21)) W := fun W => by simpa using hcut2 W
    have HA2 := Lib.hid hA2
    have hN16 := natBE_16 l 21
    have HN0 := Lib.hid (show natBE ((l.drop 21).take 2) = decN l from rfl)
    rw [HN0.out] at hN16
    clear hA2
    go_enter Tryd.func52, Tryd.ntmps52
    go_wp2_with fail
    generalize w.alloc (.cells #[.int .i64 0, .int .u32 0, .int .u32 0, .int .u32 0, .int .u32 0, .int .u32 0, .slice none 0 0] 70) = w0 at *
    refine (refnum_any w0 A2 2 _ _ (HA2.out w0 l (K0.out.rdNo HR.out)) (by omega)).mono ?_
    rintro e w1 ⟨rfl, rfl⟩
    rw [HN0.out]
    have HN1 := Lib.hid (show ∃ N, N = decN l from ⟨_, rfl⟩)
    generalize hN : decN l = N at *
    have HN := Lib.hid hN
    clear hN
    have z0 : w0.cell? ⟨w.heap.size, 0, none⟩ = some (.int .i64 0) := by rw [blk_cell HNE.out]; rfl
    have z1 : w0.cell? ⟨w.heap.size, 1, none⟩ = some (.int .u32 0) := by rw [blk_cell HNE.out]; rfl
    have z2 : w0.cell? ⟨w.heap.size, 2, none⟩ = some (.int .u32 0) := by rw [blk_cell HNE.out]; rfl
    have z3 : w0.cell? ⟨w.heap.size, 3, none⟩ = some (.int .u32 0) := by rw [blk_cell HNE.out]; rfl
    have z4 : w0.cell? ⟨w.heap.size, 4, none⟩ = some (.int .u32 0) := by rw [blk_cell HNE.out]; rfl
    have z5 : w0.cell? ⟨w.heap.size, 5, none⟩ = some (.int .u32 0) := by rw [blk_cell HNE.out]; rfl
    have z6 : w0.cell? ⟨w.heap.size, 6, none⟩ = some (.slice none 0 0) := by rw [blk_cell HNE.out]; rfl
    have y0 : w0.frozen? ⟨w.heap.size, 0, none⟩ = false := blk_frozen HNE.out 0
    have y1 : w0.frozen? ⟨w.heap.size, 1, none⟩ = false := blk_frozen HNE.out 1
    have y2 : w0.frozen? ⟨w.heap.size, 2, none⟩ = false := blk_frozen HNE.out 2
    have y3 : w0.frozen? ⟨w.heap.size, 3, none⟩ = false := blk_frozen HNE.out 3
    have y4 : w0.frozen? ⟨w.heap.size, 4, none⟩ = false := blk_frozen HNE.out 4
    have y5 : w0.frozen? ⟨w.heap.size, 5, none⟩ = false := blk_frozen HNE.out 5
    have y6 : w0.frozen? ⟨w.heap.size, 6, none⟩ = false := blk_frozen HNE.out 6
    by_cases hs : (n : Int) < 35 + (N : Int)
    · have HE := Lib.hid (show decE l = 4 from by unfold decE; rw [if_pos (by rw [HN.out]; omega)])
      have hzz := stF_heap HNE.out (.int .i64 0) (.int .u32 0) (.int .u32 0) (.int .u32 0) (.int .u32 0) (.int .u32 0) (.slice none 0 0)
      have HKZ := Lib.hid (show Keeps No w (stF w0 w.heap.size (.int .i64 0) (.int .u32 0) (.int .u32 0) (.int .u32 0) (.int .u32 0) (.int .u32 0) (.slice none 0 0)) from K0.out.trans (stF_keeps _ _ _ _ _ _ _ _ _) (fun i hi => .inr (by have hi : i = w.heap.size := hi; omega)))
      have HZZ := Lib.hid hzz
      clear hzz
      go_wp2
      show bodyPost _ _ _ _ _ (stF w0 w.heap.size (.int .i64 0) (.int .u32 0) (.int .u32 0) (.int .u32 0) (.int .u32 0) (.int .u32 0) (.slice none 0 0))
      generalize stF w0 w.heap.size (.int .i64 0) (.int .u32 0) (.int .u32 0) (.int .u32 0) (.int .u32 0) (.int .u32 0) (.slice none 0 0) = wz at *
      have q0 : wz.cell? ⟨w.heap.size, 0, none⟩ = some (.int .i64 0) := by rw [blk_cell HZZ.out]; rfl
      have q1 : wz.cell? ⟨w.heap.size, 1, none⟩ = some (.int .u32 0) := by rw [blk_cell HZZ.out]; rfl
      have q2 : wz.cell? ⟨w.heap.size, 2, none⟩ = some (.int .u32 0) := by rw [blk_cell HZZ.out]; rfl
      have q3 : wz.cell? ⟨w.heap.size, 3, none⟩ = some (.int .u32 0) := by rw [blk_cell HZZ.out]; rfl
      have q4 : wz.cell? ⟨w.heap.size, 4, none⟩ = some (.int .u32 0) := by rw [blk_cell HZZ.out]; rfl
      have q5 : wz.cell? ⟨w.heap.size, 5, none⟩ = some (.int .u32 0) := by rw [blk_cell HZZ.out]; rfl
      have q6 : wz.cell? ⟨w.heap.size, 6, none⟩ = some (.slice none 0 0) := by rw [blk_cell HZZ.out]; rfl
      refine bodyPost_ret (v := .tuple #[.agg #[.int .i64 0, .int .u32 0, .int .u32 0, .int .u32 0, .int .u32 0, .int .u32 0, .slice none 0 0], .int .u64 0, .int .i64 4]) (by simp [results, Tryd.results52, go_sem, q0, q1, q2, q3, q4, q5, q6]) rfl ?_
      have hne : decE l ≠ 0 := by rw [HE.out]; decide
      exact ⟨.slice none 0 0, by rw [decF_bad hne, decT_bad hne, HE.out]; rfl, by rw [decF_bad hne]; exact Ow.nil _ _, HKZ.out⟩
    · have hs2 : 35 + (N : Int) ≤ (n : Int) := by omega
      clear hs
      by_cases hg : 35 + (N : Int) < (n : Int)
      · have HE := Lib.hid (show decE l = 5 from by unfold decE; rw [HN.out, if_neg (by omega), if_pos (by omega)])
        have hzz := stF_heap HNE.out (.int .i64 0) (.int .u32 0) (.int .u32 0) (.int .u32 0) (.int .u32 0) (.int .u32 0) (.slice none 0 0)
        have HKZ := Lib.hid (show Keeps No w (stF w0 w.heap.size (.int .i64 0) (.int .u32 0) (.int .u32 0) (.int .u32 0) (.int .u32 0) (.int .u32 0) (.slice none 0 0)) from K0.out.trans (stF_keeps _ _ _ _ _ _ _ _ _) (fun i hi => .inr (by have hi : i = w.heap.size := hi; omega)))
        have HZZ := Lib.hid hzz
        have hb1 : decide ((n : Int) < 35 + (N : Int)) = false := decide_eq_false (by omega)
        have hb2 : decide (35 + (N : Int) < (n : Int)) = true := decide_eq_true hg
        clear hs2 hg h35
        clear hzz
        go_wp2
        show bodyPost _ _ _ _ _ (stF w0 w.heap.size (.int .i64 0) (.int .u32 0) (.int .u32 0) (.int .u32 0) (.int .u32 0) (.int .u32 0) (.slice none 0 0))
        generalize stF w0 w.heap.size (.int .i64 0) (.int .u32 0) (.int .u32 0) (.int .u32 0) (.int .u32 0) (.int .u32 0) (.slice none 0 0) = wz at *
        have q0 : wz.cell? ⟨w.heap.size, 0, none⟩ = some (.int .i64 0) := by rw [blk_cell HZZ.out]; rfl
        have q1 : wz.cell? ⟨w.heap.size, 1, none⟩ = some (.int .u32 0) := by rw [blk_cell HZZ.out]; rfl
        have q2 : wz.cell? ⟨w.heap.size, 2, none⟩ = some (.int .u32 0) := by rw [blk_cell HZZ.out]; rfl
        have q3 : wz.cell? ⟨w.heap.size, 3, none⟩ = some (.int .u32 0) := by rw [blk_cell HZZ.out]; rfl
        have q4 : wz.cell? ⟨w.heap.size, 4, none⟩ = some (.int .u32 0) := by rw [blk_cell HZZ.out]; rfl
        have q5 : wz.cell? ⟨w.heap.size, 5, none⟩ = some (.int .u32 0) := by rw [blk_cell HZZ.out]; rfl
        have q6 : wz.cell? ⟨w.heap.size, 6, none⟩ = some (.slice none 0 0) := by rw [blk_cell HZZ.out]; rfl
        refine bodyPost_ret (v := .tuple #[.agg #[.int .i64 0, .int .u32 0, .int .u32 0, .int .u32 0, .int .u32 0, .int .u32 0, .slice none 0 0], .int .u64 0, .int .i64 5]) (by simp [results, Tryd.results52, go_sem, q0, q1, q2, q3, q4, q5, q6]) rfl ?_
        have hne : decE l ≠ 0 := by rw [HE.out]; decide
        exact ⟨.slice none 0 0, by rw [decF_bad hne, decT_bad hne, HE.out]; rfl, by rw [decF_bad hne]; exact Ow.nil _ _, HKZ.out⟩
      · have hn35 : n = 35 + N := by omega
        have hg2 : (n : Int) ≤ 35 + (N : Int) := by omega
        clear hg
        have HN35 := Lib.hid hn35
        have HE1 := Lib.hid (show decE l = if natBE (l.drop (31 + N)) ≠ crcOf (l.take (31 + N)) then 11 else if mayB (frmOf l) = true then 0 else 5 from by unfold decE; rw [HN.out, if_neg (by omega), if_neg (by omega)])
        obtain ⟨A3, hcut3, hA3, _⟩ := cut_from (some ad) n c (31 + N) (by omega)
        have hcut3 : ∀ W : World, (Instr.slice 22 (.slice (some ad) n c) (some (.int .i64 (31 + (N : Int)))) none none).run Tryd.prog W = .ok (.slice A3 4 (c - (31 + N))) W := fun W => by
          have := hcut3 W
          rw [show n - (31 + N) = 4 by omega] at this
          simpa using this
        have R3 := Lib.hid (fun W (k : Keeps No w0 W) => show Rd W A3 4 (l.drop (31 + N)) from by
          have := hA3 W l hc ((K0.out.then k).rdNo HR.out)
          rwa [show n - (31 + N) = 4 by omega] at this)
        have R4 := Lib.hid (fun W (k : Keeps No w0 W) => ((K0.out.then k).rdNo HR.out).take (31 + N) (by omega))
        have HP3 := Lib.hid (fun W (k : Keeps No w0 W) c' => refnum_any W A3 4 c' (l.drop (31 + N)) (R3.out W k) (by omega))
        have HP4 := Lib.hid (fun W (k : Keeps No w0 W) c' => refcrc_any W (some ad) (31 + N) c' (l.take (31 + N)) (R4.out W k))
        have hcut4 : ∀ W : World, (Instr.slice 22 (.slice (some ad) n c) none (some (.int .i64 (31 + (N : Int)))) none).run Tryd.prog W = .ok (.slice (some ad) (31 + N) c) W := fun W => by
          obtain ⟨i0, hi0, _, _, _⟩ := info_parts Tryd.info5
          have := cut_to (P := Tryd.prog) 22 5 .i64 Tryd.underlying22 hi0 (some ad) n c (31 + (N : Int)) (by omega) (by omega) hc W
          rwa [show (31 + (N : Int)).toNat = 31 + N by omega] at this
        clear hA3 hn35
        have hkl : crcOf (l.take (31 + N)) < 4294967296 := CrcPlain.lt_xor (k := 32) (by decide) (regOf_lt _)
        have hw31 : IntKind.i64.wrap (31 + (N : Int)) = 31 + (N : Int) := IntWalk.i64_in _ (by omega)
        generalize hcrc : crcOf (l.take (31 + N)) = k at *
        clear hcrc
        generalize hsum : natBE (l.drop (31 + N)) = sm at *
        have hwk : IntKind.u64.wrap (k : Int) = (k : Int) := by rw [IntKind.wrap_u64]; omega
        clear hsum
        by_cases hk : sm = k
        · subst hk
          go_wp2_with fail
          have hk6 := (Keeps.refl No w0).drew
          have hkl := (Keeps.refl No w0).drew
          refine wp_region_held_drew (S := fun W => Keeps No w0 W ∧ Keeps No w0 W) (by kernel_rfl) ⟨hk6, hkl⟩ (fun _ => ?_)
          refine wpAnyH_got (fuel := 11) (i := 0) (d := 27) (v := ?_) rfl rfl (by kernel_rfl) (by kernel_rfl) (by kernel_rfl) (fun _ _ _ h => h) (Or.inl ⟨by rfl, ?_⟩) ⟨hk6, hkl⟩ ?_
          rotate_left
          focus (intro W hSw; go_simp; try (with_reducible rfl))
          try simp only [Act.put, List.setIfInBounds_toArray, List.set_cons_zero, List.set_cons_succ]
          refine wpAnyH_got (fuel := 10) (i := 1) (d := 28) (v := ?_) rfl rfl (by kernel_rfl) (by kernel_rfl) (by kernel_rfl) (fun _ _ _ h => h) (Or.inl ⟨by rfl, ?_⟩) ⟨hk6, hkl⟩ ?_
          rotate_left
          focus (intro W hSw; go_simp; try (with_reducible rfl))
          try simp only [Act.put, List.setIfInBounds_toArray, List.set_cons_zero, List.set_cons_succ]
          refine wpAnyH_got (fuel := 9) (i := 2) (d := 29) (v := ?_) rfl rfl (by kernel_rfl) (by kernel_rfl) (by kernel_rfl) (fun _ _ _ h => h) (Or.inl ⟨by rfl, ?_⟩) ⟨hk6, hkl⟩ ?_
          rotate_left
          focus (intro W hSw; go_simp; try (with_reducible rfl))
          try simp only [Act.put, List.setIfInBounds_toArray, List.set_cons_zero, List.set_cons_succ]
          refine wpAnyH_got (fuel := 8) (i := 3) (d := 30) (v := ?_) rfl rfl (by kernel_rfl) (by kernel_rfl) (by kernel_rfl) (fun _ _ _ h => h) (Or.inl ⟨by rfl, ?_⟩) ⟨hk6, hkl⟩ ?_
          rotate_left
          focus (intro W hSw; go_simp; try (with_reducible rfl))
          try simp only [Act.put, List.setIfInBounds_toArray, List.set_cons_zero, List.set_cons_succ]
          refine wpAnyH_got (fuel := 7) (i := 5) (d := 32) (v := ?_) rfl rfl (by kernel_rfl) (by kernel_rfl) (by kernel_rfl) (fun _ _ _ h => h) (Or.inl ⟨by rfl, ?_⟩) ⟨hk6, hkl⟩ ?_
          rotate_left
          focus (intro W hSw; go_simp; try (with_reducible rfl))
          try simp only [Act.put, List.setIfInBounds_toArray, List.set_cons_zero, List.set_cons_succ]
          refine wpAnyH_got (fuel := 6) (i := 6) (d := 33) (v := ?_) rfl rfl (by kernel_rfl) (by kernel_rfl) (by kernel_rfl) (fun _ _ _ h => h) (Or.inl ⟨by rfl, ?_⟩) ⟨hk6, hkl⟩ ?_
          rotate_left
          focus (intro W hSw; go_simp; try (with_reducible rfl))
          try simp only [Act.put, List.setIfInBounds_toArray, List.set_cons_zero, List.set_cons_succ]
          refine wpAnyH_got (fuel := 5) (i := 7) (d := 34) (v := ?_) rfl rfl (by kernel_rfl) (by kernel_rfl) (by kernel_rfl) (fun _ _ _ h => h) (Or.inl ⟨by rfl, ?_⟩) ⟨hk6, hkl⟩ ?_
          rotate_left
          focus (intro W hSw; go_simp; try (with_reducible rfl))
          try simp only [Act.put, List.setIfInBounds_toArray, List.set_cons_zero, List.set_cons_succ]
          refine wpAnyH_got (fuel := 4) (i := 8) (d := 35) (v := ?_) rfl rfl (by kernel_rfl) (by kernel_rfl) (by kernel_rfl) (fun _ _ _ h => h) (Or.inl ⟨by rfl, ?_⟩) ⟨hk6, hkl⟩ ?_
          rotate_left
          focus (intro W hSw; go_simp; try (with_reducible rfl))
          try simp only [Act.put, List.setIfInBounds_toArray, List.set_cons_zero, List.set_cons_succ]
          refine wpAnyH_only (fuel := 3) (i := 4) (by kernel_rfl) rfl (fun K hK => ?_)
          go_simp
          refine (HP3.out _ hk6 _).mono ?_
          rintro e wa ⟨rfl, hw⟩
          have hkx := keeps_eq hw
          clear hw
          try (go_wp2_with fail)
          refine hK.out _ _ ⟨⟨hk6.then hkx, hkl.then hkx⟩, ?_⟩
          clear hK K
          refine wpAnyH_strong (S' := fun W => Keeps No w0 W ∧ Keeps No wa W) (fun W k => ⟨k.1, hkl.then (hkx.then k.2)⟩) _ _ _ _ ?_
          replace hk6 := hk6.then hkx
          replace hkl := Keeps.refl No wa
          clear hkx
          try simp only [Act.put, List.setIfInBounds_toArray, List.set_cons_zero, List.set_cons_succ]
          refine wpAnyH_only (fuel := 2) (i := 9) (by kernel_rfl) rfl (fun K hK => ?_)
          go_simp
          refine (HP4.out _ hk6 _).mono ?_
          rintro e wb ⟨rfl, hw⟩
          have hkx := keeps_eq hw
          clear hw
          try (go_wp2_with fail)
          refine hK.out _ _ ⟨⟨hk6.then hkx, hkl.then hkx⟩, ?_⟩
          clear hK K
          refine wpAnyH_strong (S' := fun W => Keeps No w0 W ∧ Keeps No wb W) (fun W k => ⟨k.1, hkl.then (hkx.then k.2)⟩) _ _ _ _ ?_
          replace hk6 := hk6.then hkx
          replace hkl := Keeps.refl No wb
          clear hkx
          try simp only [Act.put, List.setIfInBounds_toArray, List.set_cons_zero, List.set_cons_succ]
          refine wpAnyH_got (fuel := 1) (i := 10) (d := 37) (v := ?_) rfl rfl (by kernel_rfl) (by kernel_rfl) (by kernel_rfl) (fun _ _ _ h => h) (Or.inl ⟨by rfl, ?_⟩) ⟨hk6, hkl⟩ ?_
          rotate_left
          focus (intro W hSw; go_simp; try (with_reducible rfl))
          try simp only [Act.put, List.setIfInBounds_toArray, List.set_cons_zero, List.set_cons_succ]
          refine wpAnyH_got (fuel := 0) (i := 11) (d := 38) (v := ?_) rfl rfl (by kernel_rfl) (by kernel_rfl) (by kernel_rfl) (fun _ _ _ h => h) (Or.inl ⟨by rfl, ?_⟩) ⟨hk6, hkl⟩ ?_
          rotate_left
          focus (intro W hSw; go_simp; try (with_reducible rfl))
          try simp only [Act.put, List.setIfInBounds_toArray, List.set_cons_zero, List.set_cons_succ]
          refine wpAnyH_done (by kernel_rfl) ?_ _
          have HK6 := Lib.hid hk6
          clear hk6 hkl hw31
          go_wp2_with fail
          clear z0 z1 z2 z3 z4 z5 z6 y0 y1 y2 y3 y4 y5 y6 hcut3 hcut4
          have hc0 : ∀ W, Keeps No wb W → W.cell? (ad.add 0) = some (.int .u8 (l.getD 0 0).toNat) := fun W k => ((K0.out.then HK6.out).then k).cell HCE.out (fun h => h)
          have hc1 : ∀ W, Keeps No wb W → W.cell? ad = some (.int .u8 (l.getD 0 0).toNat) := fun W k => by
            have h := hc0 W k
            rwa [show ad.add 0 = ad by simp [Addr.add]] at h
          have hn0 : 0 < n := by omega
          have hwb : IntKind.i64.wrap ((l.getD 0 0).toNat : Int) = ((l.getD 0 0).toNat : Int) := IntWalk.i64_in _ (by have := (l.getD 0 0).toNat_lt; omega)
          have hbyte := (l.getD 0 0).toNat_lt
          generalize hbb : (l.getD 0 0).toNat = b0 at *
          have HBB := Lib.hid hbb
          clear hbb
          obtain ⟨B0, gcut0, gB0⟩ := mid_cut (some ad) n c 1 4 (by omega) hc
          have gcut0 : ∀ W : World, (Instr.slice 22 (.slice (some ad) n c) (some (.int .i64 1)) (some (.int .i64 5)) none).run Tryd.prog W = .ok (.slice B0 4 (c - 1)) W := fun W => by simpa using gcut0 W
          have hb0 := natBE_32 l 1
          have GB0 := Lib.hid (fun W (k : Keeps No w0 W) c' => refnum_any W B0 4 c' ((l.drop 1).take 4) (gB0 W l ((K0.out.then k).rdNo HR.out)) (by omega))
          generalize hg0 : natBE ((l.drop 1).take 4) = g0 at *
          have hgw0 : IntKind.u32.wrap (g0 : Int) = (g0 : Int) := by rw [IntKind.wrap_u32]; omega
          have HG0 := Lib.hid hg0
          clear gB0 hg0
          obtain ⟨B1, gcut1, gB1⟩ := mid_cut (some ad) n c 5 4 (by omega) hc
          have gcut1 : ∀ W : World, (Instr.slice 22 (.slice (some ad) n c) (some (.int .i64 5)) (some (.int .i64 9)) none).run Tryd.prog W = .ok (.slice B1 4 (c - 5)) W := fun W => by simpa using gcut1 W
          have hb1 := natBE_32 l 5
          have GB1 := Lib.hid (fun W (k : Keeps No w0 W) c' => refnum_any W B1 4 c' ((l.drop 5).take 4) (gB1 W l ((K0.out.then k).rdNo HR.out)) (by omega))
          generalize hg1 : natBE ((l.drop 5).take 4) = g1 at *
          have hgw1 : IntKind.u32.wrap (g1 : Int) = (g1 : Int) := by rw [IntKind.wrap_u32]; omega
          have HG1 := Lib.hid hg1
          clear gB1 hg1
          obtain ⟨B2, gcut2, gB2⟩ := mid_cut (some ad) n c 9 4 (by omega) hc
          have gcut2 : ∀ W : World, (Instr.slice 22 (.slice (some ad) n c) (some (.int .i64 9)) (some (.int .i64 13)) none).run Tryd.prog W = .ok (.slice B2 4 (c - 9)) W := fun W => by simpa using gcut2 W
          have hb2 := natBE_32 l 9
          have GB2 := Lib.hid (fun W (k : Keeps No w0 W) c' => refnum_any W B2 4 c' ((l.drop 9).take 4) (gB2 W l ((K0.out.then k).rdNo HR.out)) (by omega))
          generalize hg2 : natBE ((l.drop 9).take 4) = g2 at *
          have hgw2 : IntKind.u32.wrap (g2 : Int) = (g2 : Int) := by rw [IntKind.wrap_u32]; omega
          have HG2 := Lib.hid hg2
          clear gB2 hg2
          obtain ⟨B3, gcut3, gB3⟩ := mid_cut (some ad) n c 13 4 (by omega) hc
          have gcut3 : ∀ W : World, (Instr.slice 22 (.slice (some ad) n c) (some (.int .i64 13)) (some (.int .i64 17)) none).run Tryd.prog W = .ok (.slice B3 4 (c - 13)) W := fun W => by simpa using gcut3 W
          have hb3 := natBE_32 l 13
          have GB3 := Lib.hid (fun W (k : Keeps No w0 W) c' => refnum_any W B3 4 c' ((l.drop 13).take 4) (gB3 W l ((K0.out.then k).rdNo HR.out)) (by omega))
          generalize hg3 : natBE ((l.drop 13).take 4) = g3 at *
          have hgw3 : IntKind.u32.wrap (g3 : Int) = (g3 : Int) := by rw [IntKind.wrap_u32]; omega
          have HG3 := Lib.hid hg3
          clear gB3 hg3
          obtain ⟨B4, gcut4, gB4⟩ := mid_cut (some ad) n c 17 4 (by omega) hc
          have gcut4 : ∀ W : World, (Instr.slice 22 (.slice (some ad) n c) (some (.int .i64 17)) (some (.int .i64 21)) none).run Tryd.prog W = .ok (.slice B4 4 (c - 17)) W := fun W => by simpa using gcut4 W
          have hb4 := natBE_32 l 17
          have GB4 := Lib.hid (fun W (k : Keeps No w0 W) c' => refnum_any W B4 4 c' ((l.drop 17).take 4) (gB4 W l ((K0.out.then k).rdNo HR.out)) (by omega))
          generalize hg4 : natBE ((l.drop 17).take 4) = g4 at *
          have hgw4 : IntKind.u32.wrap (g4 : Int) = (g4 : Int) := by rw [IntKind.wrap_u32]; omega
          have HG4 := Lib.hid hg4
          clear gB4 hg4
          refine' wp_det (a' := _) (w' := _) ?_ ?_
          rotate_left 2
          · have hk6 := (Keeps.refl No wb).drew
            have hkl := (Keeps.refl No wb).drew
            refine wp_region_held_drew (S := fun W => Keeps No wb W ∧ Keeps No wb W) (by kernel_rfl) ⟨hk6, hkl⟩ (fun _ => ?_)
            refine wpAnyH_got (fuel := 26) (i := 0) (d := 40) (v := ?_) rfl rfl (by kernel_rfl) (by kernel_rfl) (by kernel_rfl) (fun _ _ _ h => h) (Or.inl ⟨by rfl, ?_⟩) ⟨hk6, hkl⟩ ?_
            rotate_left
            focus (intro W hSw; go_simp; try (with_reducible rfl))
            try simp only [Act.put, List.setIfInBounds_toArray, List.set_cons_zero, List.set_cons_succ]
            refine wpAnyH_got (fuel := 25) (i := 1) (d := 41) (v := ?_) rfl rfl (by kernel_rfl) (by kernel_rfl) (by kernel_rfl) (fun _ _ _ h => h) (Or.inl ⟨by rfl, ?_⟩) ⟨hk6, hkl⟩ ?_
            rotate_left
            focus (intro W hSw; go_simp; try (with_reducible rfl))
            try simp only [Act.put, List.setIfInBounds_toArray, List.set_cons_zero, List.set_cons_succ]
            refine wpAnyH_got (fuel := 24) (i := 2) (d := 42) (v := ?_) rfl rfl (by kernel_rfl) (by kernel_rfl) (by kernel_rfl) (fun _ _ _ h => h) (Or.inl ⟨by rfl, ?_⟩) ⟨hk6, hkl⟩ ?_
            rotate_left
            focus (intro W hSw; go_simp; try (with_reducible rfl))
            try simp only [Act.put, List.setIfInBounds_toArray, List.set_cons_zero, List.set_cons_succ]
            refine wpAnyH_got (fuel := 23) (i := 3) (d := 43) (v := ?_) rfl rfl (by kernel_rfl) (by kernel_rfl) (by kernel_rfl) (fun _ _ _ h => h) (Or.inl ⟨by rfl, ?_⟩) ⟨hk6, hkl⟩ ?_
            rotate_left
            focus (intro W hSw; go_simp; try (with_reducible rfl))
            try simp only [Act.put, List.setIfInBounds_toArray, List.set_cons_zero, List.set_cons_succ]
            refine wpAnyH_got (fuel := 22) (i := 4) (d := 44) (v := ?_) rfl rfl (by kernel_rfl) (by kernel_rfl) (by kernel_rfl) (fun _ _ _ h => h) (Or.inl ⟨by rfl, ?_⟩) ⟨hk6, hkl⟩ ?_
            rotate_left
            focus (intro W hSw; go_simp; try (with_reducible rfl))
            try simp only [Act.put, List.setIfInBounds_toArray, List.set_cons_zero, List.set_cons_succ]
            refine wpAnyH_got (fuel := 21) (i := 5) (d := 45) (v := ?_) rfl rfl (by kernel_rfl) (by kernel_rfl) (by kernel_rfl) (fun _ _ _ h => h) (Or.inl ⟨by rfl, ?_⟩) ⟨hk6, hkl⟩ ?_
            rotate_left
            focus (intro W hSw; go_simp; try (with_reducible rfl))
            try simp only [Act.put, List.setIfInBounds_toArray, List.set_cons_zero, List.set_cons_succ]
            refine wpAnyH_got (fuel := 20) (i := 8) (d := 48) (v := ?_) rfl rfl (by kernel_rfl) (by kernel_rfl) (by kernel_rfl) (fun _ _ _ h => h) (Or.inl ⟨by rfl, ?_⟩) ⟨hk6, hkl⟩ ?_
            rotate_left
            focus (intro W hSw; go_simp; try (with_reducible rfl))
            try simp only [Act.put, List.setIfInBounds_toArray, List.set_cons_zero, List.set_cons_succ]
            refine wpAnyH_got (fuel := 19) (i := 9) (d := 49) (v := ?_) rfl rfl (by kernel_rfl) (by kernel_rfl) (by kernel_rfl) (fun _ _ _ h => h) (Or.inl ⟨by rfl, ?_⟩) ⟨hk6, hkl⟩ ?_
            rotate_left
            focus (intro W hSw; go_simp; try (with_reducible rfl))
            try simp only [Act.put, List.setIfInBounds_toArray, List.set_cons_zero, List.set_cons_succ]
            refine wpAnyH_got (fuel := 18) (i := 12) (d := 52) (v := ?_) rfl rfl (by kernel_rfl) (by kernel_rfl) (by kernel_rfl) (fun _ _ _ h => h) (Or.inl ⟨by rfl, ?_⟩) ⟨hk6, hkl⟩ ?_
            rotate_left
            focus (intro W hSw; go_simp; try (with_reducible rfl))
            try simp only [Act.put, List.setIfInBounds_toArray, List.set_cons_zero, List.set_cons_succ]
            refine wpAnyH_got (fuel := 17) (i := 13) (d := 53) (v := ?_) rfl rfl (by kernel_rfl) (by kernel_rfl) (by kernel_rfl) (fun _ _ _ h => h) (Or.inl ⟨by rfl, ?_⟩) ⟨hk6, hkl⟩ ?_
            rotate_left
            focus (intro W hSw; go_simp; try (with_reducible rfl))
            try simp only [Act.put, List.setIfInBounds_toArray, List.set_cons_zero, List.set_cons_succ]
            refine wpAnyH_got (fuel := 16) (i := 16) (d := 56) (v := ?_) rfl rfl (by kernel_rfl) (by kernel_rfl) (by kernel_rfl) (fun _ _ _ h => h) (Or.inl ⟨by rfl, ?_⟩) ⟨hk6, hkl⟩ ?_
            rotate_left
            focus (intro W hSw; go_simp; try (with_reducible rfl))
            try simp only [Act.put, List.setIfInBounds_toArray, List.set_cons_zero, List.set_cons_succ]
            refine wpAnyH_got (fuel := 15) (i := 17) (d := 57) (v := ?_) rfl rfl (by kernel_rfl) (by kernel_rfl) (by kernel_rfl) (fun _ _ _ h => h) (Or.inl ⟨by rfl, ?_⟩) ⟨hk6, hkl⟩ ?_
            rotate_left
            focus (intro W hSw; go_simp; try (with_reducible rfl))
            try simp only [Act.put, List.setIfInBounds_toArray, List.set_cons_zero, List.set_cons_succ]
            refine wpAnyH_got (fuel := 14) (i := 20) (d := 60) (v := ?_) rfl rfl (by kernel_rfl) (by kernel_rfl) (by kernel_rfl) (fun _ _ _ h => h) (Or.inl ⟨by rfl, ?_⟩) ⟨hk6, hkl⟩ ?_
            rotate_left
            focus (intro W hSw; go_simp; try (with_reducible rfl))
            try simp only [Act.put, List.setIfInBounds_toArray, List.set_cons_zero, List.set_cons_succ]
            refine wpAnyH_got (fuel := 13) (i := 21) (d := 61) (v := ?_) rfl rfl (by kernel_rfl) (by kernel_rfl) (by kernel_rfl) (fun _ _ _ h => h) (Or.inl ⟨by rfl, ?_⟩) ⟨hk6, hkl⟩ ?_
            rotate_left
            focus (intro W hSw; go_simp; try (with_reducible rfl))
            try simp only [Act.put, List.setIfInBounds_toArray, List.set_cons_zero, List.set_cons_succ]
            refine wpAnyH_ready (fuel := 12) (rs := [6, 25]) (by kernel_rfl) (by simp) (AllReadyH.cons rfl (fun K hK => ?_) (AllReadyH.cons rfl (fun K hK => ?_) AllReadyH.nil))
            · go_simp
              refine (GB0.out _ (Keeps.then HK6.out hk6) _).mono ?_
              rintro e w' ⟨rfl, rfl⟩
              try (go_wp2_with fail)
              refine hK.out _ _ ⟨hk6, hkl⟩ (fun _ => ?_)
              clear hK K
              try simp only [Act.put, List.setIfInBounds_toArray, List.set_cons_zero, List.set_cons_succ]
              refine wpAnyH_got (fuel := 11) (i := 7) (d := 47) (v := ?_) rfl rfl (by kernel_rfl) (by kernel_rfl) (by kernel_rfl) (fun _ _ _ h => h) (Or.inl ⟨by rfl, ?_⟩) ⟨hk6, hkl⟩ ?_
              rotate_left
              focus (intro W hSw; go_simp; try (with_reducible rfl))
              try simp only [Act.put, List.setIfInBounds_toArray, List.set_cons_zero, List.set_cons_succ]
              refine wpAnyH_ready (fuel := 10) (rs := [10, 25]) (by kernel_rfl) (by simp) (AllReadyH.cons rfl (fun K hK => ?_) (AllReadyH.cons rfl (fun K hK => ?_) AllReadyH.nil))
              · go_simp
                refine (GB1.out _ (Keeps.then HK6.out hk6) _).mono ?_
                rintro e w' ⟨rfl, rfl⟩
                try (go_wp2_with fail)
                refine hK.out _ _ ⟨hk6, hkl⟩ (fun _ => ?_)
                clear hK K
                try simp only [Act.put, List.setIfInBounds_toArray, List.set_cons_zero, List.set_cons_succ]
                refine wpAnyH_got (fuel := 9) (i := 11) (d := 51) (v := ?_) rfl rfl (by kernel_rfl) (by kernel_rfl) (by kernel_rfl) (fun _ _ _ h => h) (Or.inl ⟨by rfl, ?_⟩) ⟨hk6, hkl⟩ ?_
                rotate_left
                focus (intro W hSw; go_simp; try (with_reducible rfl))
                try simp only [Act.put, List.setIfInBounds_toArray, List.set_cons_zero, List.set_cons_succ]
                refine wpAnyH_ready (fuel := 8) (rs := [14, 25]) (by kernel_rfl) (by simp) (AllReadyH.cons rfl (fun K hK => ?_) (AllReadyH.cons rfl (fun K hK => ?_) AllReadyH.nil))
                · go_simp
                  refine (GB2.out _ (Keeps.then HK6.out hk6) _).mono ?_
                  rintro e w' ⟨rfl, rfl⟩
                  try (go_wp2_with fail)
                  refine hK.out _ _ ⟨hk6, hkl⟩ (fun _ => ?_)
                  clear hK K
                  try simp only [Act.put, List.setIfInBounds_toArray, List.set_cons_zero, List.set_cons_succ]
                  refine wpAnyH_got (fuel := 7) (i := 15) (d := 55) (v := ?_) rfl rfl (by kernel_rfl) (by kernel_rfl) (by kernel_rfl) (fun _ _ _ h => h) (Or.inl ⟨by rfl, ?_⟩) ⟨hk6, hkl⟩ ?_
                  rotate_left
                  focus (intro W hSw; go_simp; try (with_reducible rfl))
                  try simp only [Act.put, List.setIfInBounds_toArray, List.set_cons_zero, List.set_cons_succ]
                  refine wpAnyH_ready (fuel := 6) (rs := [18, 25]) (by kernel_rfl) (by simp) (AllReadyH.cons rfl (fun K hK => ?_) (AllReadyH.cons rfl (fun K hK => ?_) AllReadyH.nil))
                  · go_simp
                    refine (GB3.out _ (Keeps.then HK6.out hk6) _).mono ?_
                    rintro e w' ⟨rfl, rfl⟩
                    try (go_wp2_with fail)
                    refine hK.out _ _ ⟨hk6, hkl⟩ (fun _ => ?_)
                    clear hK K
                    try simp only [Act.put, List.setIfInBounds_toArray, List.set_cons_zero, List.set_cons_succ]
                    refine wpAnyH_got (fuel := 5) (i := 19) (d := 59) (v := ?_) rfl rfl (by kernel_rfl) (by kernel_rfl) (by kernel_rfl) (fun _ _ _ h => h) (Or.inl ⟨by rfl, ?_⟩) ⟨hk6, hkl⟩ ?_
                    rotate_left
                    focus (intro W hSw; go_simp; try (with_reducible rfl))
                    try simp only [Act.put, List.setIfInBounds_toArray, List.set_cons_zero, List.set_cons_succ]
                    refine wpAnyH_ready (fuel := 4) (rs := [22, 25]) (by kernel_rfl) (by simp) (AllReadyH.cons rfl (fun K hK => ?_) (AllReadyH.cons rfl (fun K hK => ?_) AllReadyH.nil))
                    · go_simp
                      refine (GB4.out _ (Keeps.then HK6.out hk6) _).mono ?_
                      rintro e w' ⟨rfl, rfl⟩
                      try (go_wp2_with fail)
                      refine hK.out _ _ ⟨hk6, hkl⟩ (fun _ => ?_)
                      clear hK K
                      try simp only [Act.put, List.setIfInBounds_toArray, List.set_cons_zero, List.set_cons_succ]
                      refine wpAnyH_got (fuel := 3) (i := 23) (d := 63) (v := ?_) rfl rfl (by kernel_rfl) (by kernel_rfl) (by kernel_rfl) (fun _ _ _ h => h) (Or.inl ⟨by rfl, ?_⟩) ⟨hk6, hkl⟩ ?_
                      rotate_left
                      focus (intro W hSw; go_simp; try (with_reducible rfl))
                      try simp only [Act.put, List.setIfInBounds_toArray, List.set_cons_zero, List.set_cons_succ]
                      refine wpAnyH_got (fuel := 2) (i := 24) (d := 64) (v := ?_) rfl rfl (by kernel_rfl) (by kernel_rfl) (by kernel_rfl) (fun _ _ _ h => h) (Or.inl ⟨by rfl, ?_⟩) ⟨hk6, hkl⟩ ?_
                      rotate_left
                      focus (intro W hSw; go_simp; try (with_reducible rfl))
                      try simp only [Act.put, List.setIfInBounds_toArray, List.set_cons_zero, List.set_cons_succ]
                      refine wpAnyH_only (fuel := 1) (i := 25) (by kernel_rfl) rfl (fun K hK => ?_)
                      go_simp
                      have ha6 := hk6.alloc (.cells #[.int .i64 0, .int .u32 0, .int .u32 0, .int .u32 0, .int .u32 0, .int .u32 0, .slice none 0 0] 70)
                      have hal := hkl.alloc (.cells #[.int .i64 0, .int .u32 0, .int .u32 0, .int .u32 0, .int .u32 0, .int .u32 0, .slice none 0 0] 70)
                      refine hK.out _ _ ⟨⟨ha6, hal⟩, ?_⟩
                      clear hK K hk6 hkl
                      have hk6 := ha6
                      have hkl := hal
                      clear ha6 hal
                      try simp only [Act.put, List.setIfInBounds_toArray, List.set_cons_zero, List.set_cons_succ]
                      refine wpAnyH_only (fuel := 0) (i := 26) (by kernel_rfl) rfl (fun K hK => ?_)
                      go_simp
                      refine hK.out _ _ ⟨⟨(Keeps.refl No wb).drew.alloc _, (Keeps.refl No wb).drew.alloc _⟩, ?_⟩
                      clear hK K
                      try simp only [Act.put, List.setIfInBounds_toArray, List.set_cons_zero, List.set_cons_succ]
                      refine wpAnyH_done (by kernel_rfl) ?_ _
                      constructor
                      · with_reducible rfl
                      · with_reducible rfl
                    · go_simp
                      have ha6 := hk6.alloc (.cells #[.int .i64 0, .int .u32 0, .int .u32 0, .int .u32 0, .int .u32 0, .int .u32 0, .slice none 0 0] 70)
                      have hal := hkl.alloc (.cells #[.int .i64 0, .int .u32 0, .int .u32 0, .int .u32 0, .int .u32 0, .int .u32 0, .slice none 0 0] 70)
                      refine hK.out _ _ ⟨ha6, hal⟩ (fun _ => ?_)
                      clear hK K hk6 hkl
                      have hk6 := ha6
                      have hkl := hal
                      clear ha6 hal
                      try simp only [Act.put, List.setIfInBounds_toArray, List.set_cons_zero, List.set_cons_succ]
                      refine wpAnyH_only (fuel := 3) (i := 22) (by kernel_rfl) rfl (fun K hK => ?_)
                      go_simp
                      refine (GB4.out _ (Keeps.then HK6.out hk6) _).mono ?_
                      rintro e w' ⟨rfl, rfl⟩
                      try (go_wp2_with fail)
                      refine hK.out _ _ ⟨⟨hk6, hkl⟩, ?_⟩
                      clear hK K
                      try simp only [Act.put, List.setIfInBounds_toArray, List.set_cons_zero, List.set_cons_succ]
                      refine wpAnyH_got (fuel := 2) (i := 23) (d := 63) (v := ?_) rfl rfl (by kernel_rfl) (by kernel_rfl) (by kernel_rfl) (fun _ _ _ h => h) (Or.inl ⟨by rfl, ?_⟩) ⟨hk6, hkl⟩ ?_
                      rotate_left
                      focus (intro W hSw; go_simp; try (with_reducible rfl))
                      try simp only [Act.put, List.setIfInBounds_toArray, List.set_cons_zero, List.set_cons_succ]
                      refine wpAnyH_got (fuel := 1) (i := 24) (d := 64) (v := ?_) rfl rfl (by kernel_rfl) (by kernel_rfl) (by kernel_rfl) (fun _ _ _ h => h) (Or.inl ⟨by rfl, ?_⟩) ⟨hk6, hkl⟩ ?_
                      rotate_left
                      focus (intro W hSw; go_simp; try (with_reducible rfl))
                      try simp only [Act.put, List.setIfInBounds_toArray, List.set_cons_zero, List.set_cons_succ]
                      refine wpAnyH_only (fuel := 0) (i := 26) (by kernel_rfl) rfl (fun K hK => ?_)
                      go_simp
                      refine hK.out _ _ ⟨⟨(Keeps.refl No wb).drew.alloc _, (Keeps.refl No wb).drew.alloc _⟩, ?_⟩
                      clear hK K
                      try simp only [Act.put, List.setIfInBounds_toArray, List.set_cons_zero, List.set_cons_succ]
                      refine wpAnyH_done (by kernel_rfl) ?_ _
                      constructor
                      · with_reducible rfl
                      · with_reducible rfl
                  · go_simp
                    have ha6 := hk6.alloc (.cells #[.int .i64 0, .int .u32 0, .int .u32 0, .int .u32 0, .int .u32 0, .int .u32 0, .slice none 0 0] 70)
                    have hal := hkl.alloc (.cells #[.int .i64 0, .int .u32 0, .int .u32 0, .int .u32 0, .int .u32 0, .int .u32 0, .slice none 0 0] 70)
                    refine hK.out _ _ ⟨ha6, hal⟩ (fun _ => ?_)
                    clear hK K hk6 hkl
                    have hk6 := ha6
                    have hkl := hal
                    clear ha6 hal
                    try simp only [Act.put, List.setIfInBounds_toArray, List.set_cons_zero, List.set_cons_succ]
                    refine wpAnyH_only (fuel := 5) (i := 18) (by kernel_rfl) rfl (fun K hK => ?_)
                    go_simp
                    refine (GB3.out _ (Keeps.then HK6.out hk6) _).mono ?_
                    rintro e w' ⟨rfl, rfl⟩
                    try (go_wp2_with fail)
                    refine hK.out _ _ ⟨⟨hk6, hkl⟩, ?_⟩
                    clear hK K
                    try simp only [Act.put, List.setIfInBounds_toArray, List.set_cons_zero, List.set_cons_succ]
                    refine wpAnyH_got (fuel := 4) (i := 19) (d := 59) (v := ?_) rfl rfl (by kernel_rfl) (by kernel_rfl) (by kernel_rfl) (fun _ _ _ h => h) (Or.inl ⟨by rfl, ?_⟩) ⟨hk6, hkl⟩ ?_
                    rotate_left
                    focus (intro W hSw; go_simp; try (with_reducible rfl))
                    try simp only [Act.put, List.setIfInBounds_toArray, List.set_cons_zero, List.set_cons_succ]
                    refine wpAnyH_only (fuel := 3) (i := 22) (by kernel_rfl) rfl (fun K hK => ?_)
                    go_simp
                    refine (GB4.out _ (Keeps.then HK6.out hk6) _).mono ?_
                    rintro e w' ⟨rfl, rfl⟩
                    try (go_wp2_with fail)
                    refine hK.out _ _ ⟨⟨hk6, hkl⟩, ?_⟩
                    clear hK K
                    try simp only [Act.put, List.setIfInBounds_toArray, List.set_cons_zero, List.set_cons_succ]
                    refine wpAnyH_got (fuel := 2) (i := 23) (d := 63) (v := ?_) rfl rfl (by kernel_rfl) (by kernel_rfl) (by kernel_rfl) (fun _ _ _ h => h) (Or.inl ⟨by rfl, ?_⟩) ⟨hk6, hkl⟩ ?_
                    rotate_left
                    focus (intro W hSw; go_simp; try (with_reducible rfl))
                    try simp only [Act.put, List.setIfInBounds_toArray, List.set_cons_zero, List.set_cons_succ]
                    refine wpAnyH_got (fuel := 1) (i := 24) (d := 64) (v := ?_) rfl rfl (by kernel_rfl) (by kernel_rfl) (by kernel_rfl) (fun _ _ _ h => h) (Or.inl ⟨by rfl, ?_⟩) ⟨hk6, hkl⟩ ?_
                    rotate_left
                    focus (intro W hSw; go_simp; try (with_reducible rfl))
                    try simp only [Act.put, List.setIfInBounds_toArray, List.set_cons_zero, List.set_cons_succ]
                    refine wpAnyH_only (fuel := 0) (i := 26) (by kernel_rfl) rfl (fun K hK => ?_)
                    go_simp
                    refine hK.out _ _ ⟨⟨(Keeps.refl No wb).drew.alloc _, (Keeps.refl No wb).drew.alloc _⟩, ?_⟩
                    clear hK K
                    try simp only [Act.put, List.setIfInBounds_toArray, List.set_cons_zero, List.set_cons_succ]
                    refine wpAnyH_done (by kernel_rfl) ?_ _
                    constructor
                    · with_reducible rfl
                    · with_reducible rfl
                · go_simp
                  have ha6 := hk6.alloc (.cells #[.int .i64 0, .int .u32 0, .int .u32 0, .int .u32 0, .int .u32 0, .int .u32 0, .slice none 0 0] 70)
                  have hal := hkl.alloc (.cells #[.int .i64 0, .int .u32 0, .int .u32 0, .int .u32 0, .int .u32 0, .int .u32 0, .slice none 0 0] 70)
                  refine hK.out _ _ ⟨ha6, hal⟩ (fun _ => ?_)
                  clear hK K hk6 hkl
                  have hk6 := ha6
                  have hkl := hal
                  clear ha6 hal
                  try simp only [Act.put, List.setIfInBounds_toArray, List.set_cons_zero, List.set_cons_succ]
                  refine wpAnyH_only (fuel := 7) (i := 14) (by kernel_rfl) rfl (fun K hK => ?_)
                  go_simp
                  refine (GB2.out _ (Keeps.then HK6.out hk6) _).mono ?_
                  rintro e w' ⟨rfl, rfl⟩
                  try (go_wp2_with fail)
                  refine hK.out _ _ ⟨⟨hk6, hkl⟩, ?_⟩
                  clear hK K
                  try simp only [Act.put, List.setIfInBounds_toArray, List.set_cons_zero, List.set_cons_succ]
                  refine wpAnyH_got (fuel := 6) (i := 15) (d := 55) (v := ?_) rfl rfl (by kernel_rfl) (by kernel_rfl) (by kernel_rfl) (fun _ _ _ h => h) (Or.inl ⟨by rfl, ?_⟩) ⟨hk6, hkl⟩ ?_
                  rotate_left
                  focus (intro W hSw; go_simp; try (with_reducible rfl))
                  try simp only [Act.put, List.setIfInBounds_toArray, List.set_cons_zero, List.set_cons_succ]
                  refine wpAnyH_only (fuel := 5) (i := 18) (by kernel_rfl) rfl (fun K hK => ?_)
                  go_simp
                  refine (GB3.out _ (Keeps.then HK6.out hk6) _).mono ?_
                  rintro e w' ⟨rfl, rfl⟩
                  try (go_wp2_with fail)
                  refine hK.out _ _ ⟨⟨hk6, hkl⟩, ?_⟩
                  clear hK K
                  try simp only [Act.put, List.setIfInBounds_toArray, List.set_cons_zero, List.set_cons_succ]
                  refine wpAnyH_got (fuel := 4) (i := 19) (d := 59) (v := ?_) rfl rfl (by kernel_rfl) (by kernel_rfl) (by kernel_rfl) (fun _ _ _ h => h) (Or.inl ⟨by rfl, ?_⟩) ⟨hk6, hkl⟩ ?_
                  rotate_left
                  focus (intro W hSw; go_simp; try (with_reducible rfl))
                  try simp only [Act.put, List.setIfInBounds_toArray, List.set_cons_zero, List.set_cons_succ]
                  refine wpAnyH_only (fuel := 3) (i := 22) (by kernel_rfl) rfl (fun K hK => ?_)
                  go_simp
                  refine (GB4.out _ (Keeps.then HK6.out hk6) _).mono ?_
                  rintro e w' ⟨rfl, rfl⟩
                  try (go_wp2_with fail)
                  refine hK.out _ _ ⟨⟨hk6, hkl⟩, ?_⟩
                  clear hK K
                  try simp only [Act.put, List.setIfInBounds_toArray, List.set_cons_zero, List.set_cons_succ]
                  refine wpAnyH_got (fuel := 2) (i := 23) (d := 63) (v := ?_) rfl rfl (by kernel_rfl) (by kernel_rfl) (by kernel_rfl) (fun _ _ _ h => h) (Or.inl ⟨by rfl, ?_⟩) ⟨hk6, hkl⟩ ?_
                  rotate_left
                  focus (intro W hSw; go_simp; try (with_reducible rfl))
                  try simp only [Act.put, List.setIfInBounds_toArray, List.set_cons_zero, List.set_cons_succ]
                  refine wpAnyH_got (fuel := 1) (i := 24) (d := 64) (v := ?_) rfl rfl (by kernel_rfl) (by kernel_rfl) (by kernel_rfl) (fun _ _ _ h => h) (Or.inl ⟨by rfl, ?_⟩) ⟨hk6, hkl⟩ ?_
                  rotate_left
                  focus (intro W hSw; go_simp; try (with_reducible rfl))
                  try simp only [Act.put, List.setIfInBounds_toArray, List.set_cons_zero, List.set_cons_succ]
                  refine wpAnyH_only (fuel := 0) (i := 26) (by kernel_rfl) rfl (fun K hK => ?_)
                  go_simp
                  refine hK.out _ _ ⟨⟨(Keeps.refl No wb).drew.alloc _, (Keeps.refl No wb).drew.alloc _⟩, ?_⟩
                  clear hK K
                  try simp only [Act.put, List.setIfInBounds_toArray, List.set_cons_zero, List.set_cons_succ]
                  refine wpAnyH_done (by kernel_rfl) ?_ _
                  constructor
                  · with_reducible rfl
                  · with_reducible rfl
              · go_simp
                have ha6 := hk6.alloc (.cells #[.int .i64 0, .int .u32 0, .int .u32 0, .int .u32 0, .int .u32 0, .int .u32 0, .slice none 0 0] 70)
                have hal := hkl.alloc (.cells #[.int .i64 0, .int .u32 0, .int .u32 0, .int .u32 0, .int .u32 0, .int .u32 0, .slice none 0 0] 70)
                refine hK.out _ _ ⟨ha6, hal⟩ (fun _ => ?_)
                clear hK K hk6 hkl
                have hk6 := ha6
                have hkl := hal
                clear ha6 hal
                try simp only [Act.put, List.setIfInBounds_toArray, List.set_cons_zero, List.set_cons_succ]
                refine wpAnyH_only (fuel := 9) (i := 10) (by kernel_rfl) rfl (fun K hK => ?_)
                go_simp
                refine (GB1.out _ (Keeps.then HK6.out hk6) _).mono ?_
                rintro e w' ⟨rfl, rfl⟩
                try (go_wp2_with fail)
                refine hK.out _ _ ⟨⟨hk6, hkl⟩, ?_⟩
                clear hK K
                try simp only [Act.put, List.setIfInBounds_toArray, List.set_cons_zero, List.set_cons_succ]
                refine wpAnyH_got (fuel := 8) (i := 11) (d := 51) (v := ?_) rfl rfl (by kernel_rfl) (by kernel_rfl) (by kernel_rfl) (fun _ _ _ h => h) (Or.inl ⟨by rfl, ?_⟩) ⟨hk6, hkl⟩ ?_
                rotate_left
                focus (intro W hSw; go_simp; try (with_reducible rfl))
                try simp only [Act.put, List.setIfInBounds_toArray, List.set_cons_zero, List.set_cons_succ]
                refine wpAnyH_only (fuel := 7) (i := 14) (by kernel_rfl) rfl (fun K hK => ?_)
                go_simp
                refine (GB2.out _ (Keeps.then HK6.out hk6) _).mono ?_
                rintro e w' ⟨rfl, rfl⟩
                try (go_wp2_with fail)
                refine hK.out _ _ ⟨⟨hk6, hkl⟩, ?_⟩
                clear hK K
                try simp only [Act.put, List.setIfInBounds_toArray, List.set_cons_zero, List.set_cons_succ]
                refine wpAnyH_got (fuel := 6) (i := 15) (d := 55) (v := ?_) rfl rfl (by kernel_rfl) (by kernel_rfl) (by kernel_rfl) (fun _ _ _ h => h) (Or.inl ⟨by rfl, ?_⟩) ⟨hk6, hkl⟩ ?_
                rotate_left
                focus (intro W hSw; go_simp; try (with_reducible rfl))
                try simp only [Act.put, List.setIfInBounds_toArray, List.set_cons_zero, List.set_cons_succ]
                refine wpAnyH_only (fuel := 5) (i := 18) (by kernel_rfl) rfl (fun K hK => ?_)
                go_simp
                refine (GB3.out _ (Keeps.then HK6.out hk6) _).mono ?_
                rintro e w' ⟨rfl, rfl⟩
                try (go_wp2_with fail)
                refine hK.out _ _ ⟨⟨hk6, hkl⟩, ?_⟩
                clear hK K
                try simp only [Act.put, List.setIfInBounds_toArray, List.set_cons_zero, List.set_cons_succ]
                refine wpAnyH_got (fuel := 4) (i := 19) (d := 59) (v := ?_) rfl rfl (by kernel_rfl) (by kernel_rfl) (by kernel_rfl) (fun _ _ _ h => h) (Or.inl ⟨by rfl, ?_⟩) ⟨hk6, hkl⟩ ?_
                rotate_left
                focus (intro W hSw; go_simp; try (with_reducible rfl))
                try simp only [Act.put, List.setIfInBounds_toArray, List.set_cons_zero, List.set_cons_succ]
                refine wpAnyH_only (fuel := 3) (i := 22) (by kernel_rfl) rfl (fun K hK => ?_)
                go_simp
                refine (GB4.out _ (Keeps.then HK6.out hk6) _).mono ?_
                rintro e w' ⟨rfl, rfl⟩
                try (go_wp2_with fail)
                refine hK.out _ _ ⟨⟨hk6, hkl⟩, ?_⟩
                clear hK K
                try simp only [Act.put, List.setIfInBounds_toArray, List.set_cons_zero, List.set_cons_succ]
                refine wpAnyH_got (fuel := 2) (i := 23) (d := 63) (v := ?_) rfl rfl (by kernel_rfl) (by kernel_rfl) (by kernel_rfl) (fun _ _ _ h => h) (Or.inl ⟨by rfl, ?_⟩) ⟨hk6, hkl⟩ ?_
                rotate_left
                focus (intro W hSw; go_simp; try (with_reducible rfl))
                try simp only [Act.put, List.setIfInBounds_toArray, List.set_cons_zero, List.set_cons_succ]
                refine wpAnyH_got (fuel := 1) (i := 24) (d := 64) (v := ?_) rfl rfl (by kernel_rfl) (by kernel_rfl) (by kernel_rfl) (fun _ _ _ h => h) (Or.inl ⟨by rfl, ?_⟩) ⟨hk6, hkl⟩ ?_
                rotate_left
                focus (intro W hSw; go_simp; try (with_reducible rfl))
                try simp only [Act.put, List.setIfInBounds_toArray, List.set_cons_zero, List.set_cons_succ]
                refine wpAnyH_only (fuel := 0) (i := 26) (by kernel_rfl) rfl (fun K hK => ?_)
                go_simp
                refine hK.out _ _ ⟨⟨(Keeps.refl No wb).drew.alloc _, (Keeps.refl No wb).drew.alloc _⟩, ?_⟩
                clear hK K
                try simp only [Act.put, List.setIfInBounds_toArray, List.set_cons_zero, List.set_cons_succ]
                refine wpAnyH_done (by kernel_rfl) ?_ _
                constructor
                · with_reducible rfl
                · with_reducible rfl
            · go_simp
              have ha6 := hk6.alloc (.cells #[.int .i64 0, .int .u32 0, .int .u32 0, .int .u32 0, .int .u32 0, .int .u32 0, .slice none 0 0] 70)
              have hal := hkl.alloc (.cells #[.int .i64 0, .int .u32 0, .int .u32 0, .int .u32 0, .int .u32 0, .int .u32 0, .slice none 0 0] 70)
              refine hK.out _ _ ⟨ha6, hal⟩ (fun _ => ?_)
              clear hK K hk6 hkl
              have hk6 := ha6
              have hkl := hal
              clear ha6 hal
              try simp only [Act.put, List.setIfInBounds_toArray, List.set_cons_zero, List.set_cons_succ]
              refine wpAnyH_only (fuel := 11) (i := 6) (by kernel_rfl) rfl (fun K hK => ?_)
              go_simp
              refine (GB0.out _ (Keeps.then HK6.out hk6) _).mono ?_
              rintro e w' ⟨rfl, rfl⟩
              try (go_wp2_with fail)
              refine hK.out _ _ ⟨⟨hk6, hkl⟩, ?_⟩
              clear hK K
              try simp only [Act.put, List.setIfInBounds_toArray, List.set_cons_zero, List.set_cons_succ]
              refine wpAnyH_got (fuel := 10) (i := 7) (d := 47) (v := ?_) rfl rfl (by kernel_rfl) (by kernel_rfl) (by kernel_rfl) (fun _ _ _ h => h) (Or.inl ⟨by rfl, ?_⟩) ⟨hk6, hkl⟩ ?_
              rotate_left
              focus (intro W hSw; go_simp; try (with_reducible rfl))
              try simp only [Act.put, List.setIfInBounds_toArray, List.set_cons_zero, List.set_cons_succ]
              refine wpAnyH_only (fuel := 9) (i := 10) (by kernel_rfl) rfl (fun K hK => ?_)
              go_simp
              refine (GB1.out _ (Keeps.then HK6.out hk6) _).mono ?_
              rintro e w' ⟨rfl, rfl⟩
              try (go_wp2_with fail)
              refine hK.out _ _ ⟨⟨hk6, hkl⟩, ?_⟩
              clear hK K
              try simp only [Act.put, List.setIfInBounds_toArray, List.set_cons_zero, List.set_cons_succ]
              refine wpAnyH_got (fuel := 8) (i := 11) (d := 51) (v := ?_) rfl rfl (by kernel_rfl) (by kernel_rfl) (by kernel_rfl) (fun _ _ _ h => h) (Or.inl ⟨by rfl, ?_⟩) ⟨hk6, hkl⟩ ?_
              rotate_left
              focus (intro W hSw; go_simp; try (with_reducible rfl))
              try simp only [Act.put, List.setIfInBounds_toArray, List.set_cons_zero, List.set_cons_succ]
              refine wpAnyH_only (fuel := 7) (i := 14) (by kernel_rfl) rfl (fun K hK => ?_)
              go_simp
              refine (GB2.out _ (Keeps.then HK6.out hk6) _).mono ?_
              rintro e w' ⟨rfl, rfl⟩
              try (go_wp2_with fail)
              refine hK.out _ _ ⟨⟨hk6, hkl⟩, ?_⟩
              clear hK K
              try simp only [Act.put, List.setIfInBounds_toArray, List.set_cons_zero, List.set_cons_succ]
              refine wpAnyH_got (fuel := 6) (i := 15) (d := 55) (v := ?_) rfl rfl (by kernel_rfl) (by kernel_rfl) (by kernel_rfl) (fun _ _ _ h => h) (Or.inl ⟨by rfl, ?_⟩) ⟨hk6, hkl⟩ ?_
              rotate_left
              focus (intro W hSw; go_simp; try (with_reducible rfl))
              try simp only [Act.put, List.setIfInBounds_toArray, List.set_cons_zero, List.set_cons_succ]
              refine wpAnyH_only (fuel := 5) (i := 18) (by kernel_rfl) rfl (fun K hK => ?_)
              go_simp
              refine (GB3.out _ (Keeps.then HK6.out hk6) _).mono ?_
              rintro e w' ⟨rfl, rfl⟩
              try (go_wp2_with fail)
              refine hK.out _ _ ⟨⟨hk6, hkl⟩, ?_⟩
              clear hK K
              try simp only [Act.put, List.setIfInBounds_toArray, List.set_cons_zero, List.set_cons_succ]
              refine wpAnyH_got (fuel := 4) (i := 19) (d := 59) (v := ?_) rfl rfl (by kernel_rfl) (by kernel_rfl) (by kernel_rfl) (fun _ _ _ h => h) (Or.inl ⟨by rfl, ?_⟩) ⟨hk6, hkl⟩ ?_
              rotate_left
              focus (intro W hSw; go_simp; try (with_reducible rfl))
              try simp only [Act.put, List.setIfInBounds_toArray, List.set_cons_zero, List.set_cons_succ]
              refine wpAnyH_only (fuel := 3) (i := 22) (by kernel_rfl) rfl (fun K hK => ?_)
              go_simp
              refine (GB4.out _ (Keeps.then HK6.out hk6) _).mono ?_
              rintro e w' ⟨rfl, rfl⟩
              try (go_wp2_with fail)
              refine hK.out _ _ ⟨⟨hk6, hkl⟩, ?_⟩
              clear hK K
              try simp only [Act.put, List.setIfInBounds_toArray, List.set_cons_zero, List.set_cons_succ]
              refine wpAnyH_got (fuel := 2) (i := 23) (d := 63) (v := ?_) rfl rfl (by kernel_rfl) (by kernel_rfl) (by kernel_rfl) (fun _ _ _ h => h) (Or.inl ⟨by rfl, ?_⟩) ⟨hk6, hkl⟩ ?_
              rotate_left
              focus (intro W hSw; go_simp; try (with_reducible rfl))
              try simp only [Act.put, List.setIfInBounds_toArray, List.set_cons_zero, List.set_cons_succ]
              refine wpAnyH_got (fuel := 1) (i := 24) (d := 64) (v := ?_) rfl rfl (by kernel_rfl) (by kernel_rfl) (by kernel_rfl) (fun _ _ _ h => h) (Or.inl ⟨by rfl, ?_⟩) ⟨hk6, hkl⟩ ?_
              rotate_left
              focus (intro W hSw; go_simp; try (with_reducible rfl))
              try simp only [Act.put, List.setIfInBounds_toArray, List.set_cons_zero, List.set_cons_succ]
              refine wpAnyH_only (fuel := 0) (i := 26) (by kernel_rfl) rfl (fun K hK => ?_)
              go_simp
              refine hK.out _ _ ⟨⟨(Keeps.refl No wb).drew.alloc _, (Keeps.refl No wb).drew.alloc _⟩, ?_⟩
              clear hK K
              try simp only [Act.put, List.setIfInBounds_toArray, List.set_cons_zero, List.set_cons_succ]
              refine wpAnyH_done (by kernel_rfl) ?_ _
              constructor
              · with_reducible rfl
              · with_reducible rfl
          have hkc := ((Keeps.refl No wb).alloc (.cells #[.int .i64 b0, .int .u32 g0, .int .u32 g1, .int .u32 g2, .int .u32 g3, .int .u32 g4, .slice none 0 0] 70)).drew
          have hbc : ((wb.alloc (.cells #[.int .i64 b0, .int .u32 g0, .int .u32 g1, .int .u32 g2, .int .u32 g3, .int .u32 g4, .slice none 0 0] 70)).drew).heap[wb.heap.size]? = some (.cells #[.int .i64 b0, .int .u32 g0, .int .u32 g1, .int .u32 g2, .int .u32 g3, .int .u32 g4, .slice none 0 0] 70 (0, 0)) := heap_alloc_new wb _
          generalize (wb.alloc (.cells #[.int .i64 b0, .int .u32 g0, .int .u32 g1, .int .u32 g2, .int .u32 g3, .int .u32 g4, .slice none 0 0] 70)).drew = wc at *
          have slb := blk_lt hbc
          have HBC := Lib.hid hbc
          have KC := Lib.hid (HK6.out.then hkc)
          have c6 : wc.cell? ⟨wb.heap.size, 6, none⟩ = some (.slice none 0 0) := by rw [blk_cell HBC.out]; rfl
          obtain ⟨AP, hcutP, hAP⟩ := mid_cut (some ad) n c 23 N (by omega) hc
          have hcutP : ∀ W : World, (Instr.slice 22 (.slice (some ad) n c) (some (.int .i64 23)) (some (.int .i64 (23 + (N : Int)))) none).run Tryd.prog W = .ok (.slice AP N (c - 23)) W := fun W => by simpa using hcutP W
          have RP := Lib.hid (fun W (k : Keeps No wc W) => hAP W l ((K0.out.then (KC.out.then k)).rdNo HR.out))
          have hw23 : IntKind.i64.wrap (23 + (N : Int)) = 23 + (N : Int) := IntWalk.i64_in _ (by omega)
          clear hkc hbc hAP hc0 hc1 gcut0 gcut1 gcut2 gcut3 gcut4 hgw0 hgw1 hgw2 hgw3 hgw4
          go_wp2_with fail
          go_still_tail 6, (by kernel_rfl)
          change wpList _ _ _ _ _ wc.drew
          have hkd := (Keeps.refl No wc).drew
          have hdz : wc.drew.heap.size = wc.heap.size := rfl
          generalize wc.drew = wd0 at *
          have KD := Lib.hid hkd
          clear hkd c6
          have hpl : ((l.drop 23).take N).length = N := by rw [List.length_take, List.length_drop]; omega
          have HFR := Lib.hid (show (⟨b0, g0, g1, g2, g3, g4, (l.drop 23).take N⟩ : Frm) = frmOf l from by
            unfold frmOf
            rw [HN.out, ← HBB.out, ← HG0.out, ← HG1.out, ← HG2.out, ← HG3.out, ← HG4.out, natBE_one l (by omega)])
          generalize (l.drop 23).take N = pl at *
          subst hpl
          go_wp2_with (at_builtin; go_loud (refine print_append_row_of (w0 := wd0) B8 0 wd0.heap.size rfl (.tmp 66) (.tmp 70) 22 5 (.int .u8 0) 1 rfl Tryd.underlying22 Tryd.info5 rfl (by decide) B8_one (.slice none 0 0) [] pl AP pl.length (c - 23) rfl rfl (Ow.nil _ _) (by exact RP.out _ KD.out) (Below.refl _ _) (Nat.le_refl _) (by simp; omega) ?_; intro v1 wd hown hB hgr hat; have KE := Lib.hid (KD.out.then ((Keeps.of_grown hgr).mono (S1 := No) (fun k h => by cases h))); obtain ⟨A7, c7, hv1, _, _⟩ := (show Ow wd wd0.heap.size v1 pl from hown).rd; subst hv1; have HO7 := Lib.hid (show Ow wd wd0.heap.size (.slice A7 pl.length c7) pl from hown); have hd7 := KE.out.heap HBC.out (fun h => h); have e6 : wd.cell? ⟨wb.heap.size, 6, none⟩ = some (.slice none 0 0) := (by rw [blk_cell hd7]; rfl); have f6 : wd.frozen? ⟨wb.heap.size, 6, none⟩ = false := blk_frozen hd7 6; have HD7 := Lib.hid hd7; clear hown hB hgr hat hd7; have x0 : ∀ X, (wd.setCell ⟨wb.heap.size, 6, none⟩ X).cell? ⟨wb.heap.size, 0, none⟩ = some (.int .i64 b0) := (fun X => by rw [blk_cell (blk_set HD7.out 6 X)]; rfl); have x1 : ∀ X, (wd.setCell ⟨wb.heap.size, 6, none⟩ X).cell? ⟨wb.heap.size, 1, none⟩ = some (.int .u32 g0) := (fun X => by rw [blk_cell (blk_set HD7.out 6 X)]; rfl); have x2 : ∀ X, (wd.setCell ⟨wb.heap.size, 6, none⟩ X).cell? ⟨wb.heap.size, 2, none⟩ = some (.int .u32 g1) := (fun X => by rw [blk_cell (blk_set HD7.out 6 X)]; rfl); have x3 : ∀ X, (wd.setCell ⟨wb.heap.size, 6, none⟩ X).cell? ⟨wb.heap.size, 3, none⟩ = some (.int .u32 g2) := (fun X => by rw [blk_cell (blk_set HD7.out 6 X)]; rfl); have x4 : ∀ X, (wd.setCell ⟨wb.heap.size, 6, none⟩ X).cell? ⟨wb.heap.size, 4, none⟩ = some (.int .u32 g3) := (fun X => by rw [blk_cell (blk_set HD7.out 6 X)]; rfl); have x5 : ∀ X, (wd.setCell ⟨wb.heap.size, 6, none⟩ X).cell? ⟨wb.heap.size, 5, none⟩ = some (.int .u32 g4) := (fun X => by rw [blk_cell (blk_set HD7.out 6 X)]; rfl)))
          have hst := (Keeps.refl (fun q => q = wb.heap.size) wd).setCell (p := ⟨wb.heap.size, 6, none⟩) (.inl rfl) (.slice A7 pl.length c7)
          have hwd : wc.heap.size ≤ wd.heap.size := KE.out.size
          have HOF := Lib.hid (show Ow (wd.setCell ⟨wb.heap.size, 6, none⟩ (.slice A7 pl.length c7)) wd0.heap.size (.slice A7 pl.length c7) pl from own_setCell HO7.out (fun e => by have := own_base HO7.out _ e.symm; simp only at this; omega) _)
          have HDF := Lib.hid (show (wd.setCell ⟨wb.heap.size, 6, none⟩ (.slice A7 pl.length c7)).heap[wb.heap.size]? = some (.cells #[.int .i64 b0, .int .u32 g0, .int .u32 g1, .int .u32 g2, .int .u32 g3, .int .u32 g4, .slice A7 pl.length c7] 70 (0, 0)) from by simpa using blk_set HD7.out 6 (.slice A7 pl.length c7))
          have swb : w.heap.size + 1 ≤ wb.heap.size := by have := HK6.out.size; omega
          have KW := Lib.hid (show Keeps No w (wd.setCell ⟨wb.heap.size, 6, none⟩ (.slice A7 pl.length c7)) from (K0.out.then (KC.out.then KE.out)).trans hst (fun i hi => .inr (by have hi : i = wb.heap.size := hi; omega)))
          have HZF := Lib.hid (hst.heap ((KC.out.then KE.out).heap HNE.out (fun h => h)) (fun h => by have h : w.heap.size = wb.heap.size := h; omega))
          have RBF := Lib.hid (KW.out.rdNo HR.out)
          clear hst
          refine (refmay_any _ ⟨b0, g0, g1, g2, g3, g4, pl⟩ A7 c7).mono ?_
          rintro e we ⟨rfl, hwe⟩
          rw [HFR.out]
          have HOE := Lib.hid (hwe.owNo HOF.out)
          have HDE := Lib.hid (hwe.heap HDF.out (fun h => h))
          have HZE := Lib.hid (hwe.heap HZF.out (fun h => h))
          have KWE := Lib.hid (KW.out.then hwe)
          have RBE := Lib.hid (hwe.rdNo RBF.out)
          clear hwe e6 f6 x0 x1 x2 x3 x4 x5
          have z0 : we.cell? ⟨w.heap.size, 0, none⟩ = some (.int .i64 0) := by rw [blk_cell HZE.out]; rfl
          have z1 : we.cell? ⟨w.heap.size, 1, none⟩ = some (.int .u32 0) := by rw [blk_cell HZE.out]; rfl
          have z2 : we.cell? ⟨w.heap.size, 2, none⟩ = some (.int .u32 0) := by rw [blk_cell HZE.out]; rfl
          have z3 : we.cell? ⟨w.heap.size, 3, none⟩ = some (.int .u32 0) := by rw [blk_cell HZE.out]; rfl
          have z4 : we.cell? ⟨w.heap.size, 4, none⟩ = some (.int .u32 0) := by rw [blk_cell HZE.out]; rfl
          have z5 : we.cell? ⟨w.heap.size, 5, none⟩ = some (.int .u32 0) := by rw [blk_cell HZE.out]; rfl
          have z6 : we.cell? ⟨w.heap.size, 6, none⟩ = some (.slice none 0 0) := by rw [blk_cell HZE.out]; rfl
          have y0 : we.frozen? ⟨w.heap.size, 0, none⟩ = false := blk_frozen HZE.out 0
          have y1 : we.frozen? ⟨w.heap.size, 1, none⟩ = false := blk_frozen HZE.out 1
          have y2 : we.frozen? ⟨w.heap.size, 2, none⟩ = false := blk_frozen HZE.out 2
          have y3 : we.frozen? ⟨w.heap.size, 3, none⟩ = false := blk_frozen HZE.out 3
          have y4 : we.frozen? ⟨w.heap.size, 4, none⟩ = false := blk_frozen HZE.out 4
          have y5 : we.frozen? ⟨w.heap.size, 5, none⟩ = false := blk_frozen HZE.out 5
          have y6 : we.frozen? ⟨w.heap.size, 6, none⟩ = false := blk_frozen HZE.out 6
          cases hmb : mayB (frmOf l) with
          | false =>
            have HE := Lib.hid (show decE l = 5 from by rw [HE1.out, if_neg (by simp), if_neg (by rw [hmb]; decide)])
            clear hmb
            have hzz := stF_heap HZE.out (.int .i64 0) (.int .u32 0) (.int .u32 0) (.int .u32 0) (.int .u32 0) (.int .u32 0) (.slice none 0 0)
            have HKZ := Lib.hid (show Keeps No w (stF we w.heap.size (.int .i64 0) (.int .u32 0) (.int .u32 0) (.int .u32 0) (.int .u32 0) (.int .u32 0) (.slice none 0 0)) from KWE.out.trans (stF_keeps _ _ _ _ _ _ _ _ _) (fun i hi => .inr (by have hi : i = w.heap.size := hi; omega)))
            have HZZ := Lib.hid hzz
            clear hzz
            go_wp2
            show bodyPost _ _ _ _ _ (stF we w.heap.size (.int .i64 0) (.int .u32 0) (.int .u32 0) (.int .u32 0) (.int .u32 0) (.int .u32 0) (.slice none 0 0))
            generalize stF we w.heap.size (.int .i64 0) (.int .u32 0) (.int .u32 0) (.int .u32 0) (.int .u32 0) (.int .u32 0) (.slice none 0 0) = wz at *
            have q0 : wz.cell? ⟨w.heap.size, 0, none⟩ = some (.int .i64 0) := by rw [blk_cell HZZ.out]; rfl
            have q1 : wz.cell? ⟨w.heap.size, 1, none⟩ = some (.int .u32 0) := by rw [blk_cell HZZ.out]; rfl
            have q2 : wz.cell? ⟨w.heap.size, 2, none⟩ = some (.int .u32 0) := by rw [blk_cell HZZ.out]; rfl
            have q3 : wz.cell? ⟨w.heap.size, 3, none⟩ = some (.int .u32 0) := by rw [blk_cell HZZ.out]; rfl
            have q4 : wz.cell? ⟨w.heap.size, 4, none⟩ = some (.int .u32 0) := by rw [blk_cell HZZ.out]; rfl
            have q5 : wz.cell? ⟨w.heap.size, 5, none⟩ = some (.int .u32 0) := by rw [blk_cell HZZ.out]; rfl
            have q6 : wz.cell? ⟨w.heap.size, 6, none⟩ = some (.slice none 0 0) := by rw [blk_cell HZZ.out]; rfl
            refine bodyPost_ret (v := .tuple #[.agg #[.int .i64 0, .int .u32 0, .int .u32 0, .int .u32 0, .int .u32 0, .int .u32 0, .slice none 0 0], .int .u64 0, .int .i64 5]) (by simp [results, Tryd.results52, go_sem, q0, q1, q2, q3, q4, q5, q6]) rfl ?_
            have hne : decE l ≠ 0 := by rw [HE.out]; decide
            exact ⟨.slice none 0 0, by rw [decF_bad hne, decT_bad hne, HE.out]; rfl, by rw [decF_bad hne]; exact Ow.nil _ _, HKZ.out⟩
          | true =>
            have HE := Lib.hid (show decE l = 0 from by rw [HE1.out, if_neg (by simp), if_pos hmb])
            clear hmb
            obtain ⟨AT, hcutT, hAT⟩ := mid_cut (some ad) n c (23 + pl.length) 8 (by omega) hc
            have hcutT : ∀ W : World, (Instr.slice 22 (.slice (some ad) n c) (some (.int .i64 (23 + (pl.length : Int)))) (some (.int .i64 (31 + (pl.length : Int)))) none).run Tryd.prog W = .ok (.slice AT 8 (c - (23 + pl.length))) W := fun W => by
              have h := hcutT W
              rw [show (((23 + pl.length : Nat) : Int) + ((8 : Nat) : Int)) = 31 + (pl.length : Int) by omega, show ((23 + pl.length : Nat) : Int) = 23 + (pl.length : Int) by omega] at h
              exact h
            have HTG := Lib.hid (fun W (k : Keeps (fun q => q = w.heap.size) we W) c' => refnum_any W AT 8 c' ((l.drop (23 + pl.length)).take 8) (hAT W l (k.rd RBE.out (fun a ha hn0 hb => by have := World.block_lt_of_cell? w _ HCE.out; have e : (ad.add 0).block = ad.block := (by simp [Addr.add]); cases ha; have hb : ad.block = w.heap.size := hb; omega))) (by omega))
            have hw23 : IntKind.i64.wrap (23 + (pl.length : Int)) = 23 + (pl.length : Int) := IntWalk.i64_in _ (by omega)
            have hw31 : IntKind.i64.wrap (31 + (pl.length : Int)) = 31 + (pl.length : Int) := IntWalk.i64_in _ (by omega)
            have hneB : ¬ wb.heap.size = w.heap.size := by omega
            have d0 : ∀ W, Keeps (fun q => q = w.heap.size) we W → W.cell? ⟨wb.heap.size, 0, none⟩ = some (.int .i64 b0) := fun W k => by rw [blk_cell (k.heap HDE.out hneB)]; rfl
            have d1 : ∀ W, Keeps (fun q => q = w.heap.size) we W → W.cell? ⟨wb.heap.size, 1, none⟩ = some (.int .u32 g0) := fun W k => by rw [blk_cell (k.heap HDE.out hneB)]; rfl
            have d2 : ∀ W, Keeps (fun q => q = w.heap.size) we W → W.cell? ⟨wb.heap.size, 2, none⟩ = some (.int .u32 g1) := fun W k => by rw [blk_cell (k.heap HDE.out hneB)]; rfl
            have d3 : ∀ W, Keeps (fun q => q = w.heap.size) we W → W.cell? ⟨wb.heap.size, 3, none⟩ = some (.int .u32 g2) := fun W k => by rw [blk_cell (k.heap HDE.out hneB)]; rfl
            have d4 : ∀ W, Keeps (fun q => q = w.heap.size) we W → W.cell? ⟨wb.heap.size, 4, none⟩ = some (.int .u32 g3) := fun W k => by rw [blk_cell (k.heap HDE.out hneB)]; rfl
            have d5 : ∀ W, Keeps (fun q => q = w.heap.size) we W → W.cell? ⟨wb.heap.size, 5, none⟩ = some (.int .u32 g4) := fun W k => by rw [blk_cell (k.heap HDE.out hneB)]; rfl
            have d6 : ∀ W, Keeps (fun q => q = w.heap.size) we W → W.cell? ⟨wb.heap.size, 6, none⟩ = some (.slice A7 pl.length c7) := fun W k => by rw [blk_cell (k.heap HDE.out hneB)]; rfl
            clear hAT
            generalize hvt : natBE ((l.drop (23 + pl.length)).take 8) = vt at *
            have HVT := Lib.hid hvt
            clear hvt
            go_wp2_with fail
            have hk6 := (Keeps.refl (fun q => q = w.heap.size) we).drew
            have hkl := (Keeps.refl (fun q => q = w.heap.size) we).drew
            refine wp_region_held_drew (S := fun W => Keeps (fun q => q = w.heap.size) we W ∧ Keeps (fun q => q = w.heap.size) we W) (by kernel_rfl) ⟨hk6, hkl⟩ (fun _ => ?_)
            refine wpAnyH_got (fuel := 10) (i := 0) (d := 77) (v := ?_) rfl rfl (by kernel_rfl) (by kernel_rfl) (by kernel_rfl) (fun _ _ _ h => h) (Or.inl ⟨by rfl, ?_⟩) ⟨hk6, hkl⟩ ?_
            rotate_left
            focus (intro W hSw; go_simp; try (with_reducible rfl))
            try simp only [Act.put, List.setIfInBounds_toArray, List.set_cons_zero, List.set_cons_succ]
            refine wpAnyH_got (fuel := 9) (i := 1) (d := 78) (v := ?_) rfl rfl (by kernel_rfl) (by kernel_rfl) (by kernel_rfl) (fun _ _ _ h => h) (Or.inl ⟨by rfl, ?_⟩) ⟨hk6, hkl⟩ ?_
            rotate_left
            focus (intro W hSw; go_simp; try (with_reducible rfl))
            try simp only [Act.put, List.setIfInBounds_toArray, List.set_cons_zero, List.set_cons_succ]
            refine wpAnyH_got (fuel := 8) (i := 2) (d := 79) (v := ?_) rfl rfl (by kernel_rfl) (by kernel_rfl) (by kernel_rfl) (fun _ _ _ h => h) (Or.inl ⟨by rfl, ?_⟩) ⟨hk6, hkl⟩ ?_
            rotate_left
            focus (intro W hSw; go_simp; try (with_reducible rfl))
            try simp only [Act.put, List.setIfInBounds_toArray, List.set_cons_zero, List.set_cons_succ]
            refine wpAnyH_got (fuel := 7) (i := 3) (d := 80) (v := ?_) rfl rfl (by kernel_rfl) (by kernel_rfl) (by kernel_rfl) (fun _ _ _ h => h) (Or.inl ⟨by rfl, ?_⟩) ⟨hk6, hkl⟩ ?_
            rotate_left
            focus (intro W hSw; go_simp; try (with_reducible rfl))
            try simp only [Act.put, List.setIfInBounds_toArray, List.set_cons_zero, List.set_cons_succ]
            refine wpAnyH_got (fuel := 6) (i := 4) (d := 81) (v := ?_) rfl rfl (by kernel_rfl) (by kernel_rfl) (by kernel_rfl) (fun _ _ _ h => h) (Or.inl ⟨by rfl, ?_⟩) ⟨hk6, hkl⟩ ?_
            rotate_left
            focus (intro W hSw; go_simp; try (with_reducible rfl))
            try simp only [Act.put, List.setIfInBounds_toArray, List.set_cons_zero, List.set_cons_succ]
            refine wpAnyH_got (fuel := 5) (i := 5) (d := 82) (v := ?_) rfl rfl (by kernel_rfl) (by kernel_rfl) (by kernel_rfl) (fun _ _ _ h => h) (Or.inl ⟨by rfl, ?_⟩) ⟨hk6, hkl⟩ ?_
            rotate_left
            focus (intro W hSw; go_simp; try (with_reducible rfl))
            try simp only [Act.put, List.setIfInBounds_toArray, List.set_cons_zero, List.set_cons_succ]
            refine wpAnyH_got (fuel := 4) (i := 6) (d := 83) (v := ?_) rfl rfl (by kernel_rfl) (by kernel_rfl) (by kernel_rfl) (fun _ _ _ h => h) (Or.inl ⟨by rfl, ?_⟩) ⟨hk6, hkl⟩ ?_
            rotate_left
            focus (intro W hSw; go_simp; try (with_reducible rfl))
            try simp only [Act.put, List.setIfInBounds_toArray, List.set_cons_zero, List.set_cons_succ]
            refine wpAnyH_only (fuel := 3) (i := 7) (by kernel_rfl) rfl (fun K hK => ?_)
            go_simp
            refine (HTG.out _ hk6 _).mono ?_
            rintro e w' ⟨rfl, rfl⟩
            try (go_wp2_with fail)
            refine hK.out _ _ ⟨⟨hk6, hkl⟩, ?_⟩
            clear hK K
            try simp only [Act.put, List.setIfInBounds_toArray, List.set_cons_zero, List.set_cons_succ]
            refine wpAnyH_only (fuel := 2) (i := 8) (by kernel_rfl) rfl (fun K hK => ?_)
            go_simp
            refine hK.out _ _ ⟨⟨stF_drew we w.heap.size (.int .i64 b0) (.int .u32 g0) (.int .u32 g1) (.int .u32 g2) (.int .u32 g3) (.int .u32 g4) (.slice A7 pl.length c7), stF_drew we w.heap.size (.int .i64 b0) (.int .u32 g0) (.int .u32 g1) (.int .u32 g2) (.int .u32 g3) (.int .u32 g4) (.slice A7 pl.length c7)⟩, ?_⟩
            clear hK K
            try simp only [Act.put, List.setIfInBounds_toArray, List.set_cons_zero, List.set_cons_succ]
            clear hk6 hkl
            have hk6 := stF_drew we w.heap.size (.int .i64 b0) (.int .u32 g0) (.int .u32 g1) (.int .u32 g2) (.int .u32 g3) (.int .u32 g4) (.slice A7 pl.length c7)
            have hkl := hk6
            refine wpAnyH_got (fuel := 1) (i := 9) (d := 3) (v := ?_) rfl rfl (by kernel_rfl) (by kernel_rfl) (by kernel_rfl) (fun _ _ _ h => h) (Or.inl ⟨by rfl, ?_⟩) ⟨hk6, hkl⟩ ?_
            rotate_left
            focus (intro W hSw; go_simp; try (with_reducible rfl))
            try simp only [Act.put, List.setIfInBounds_toArray, List.set_cons_zero, List.set_cons_succ]
            refine wpAnyH_got (fuel := 0) (i := 10) (d := 4) (v := ?_) rfl rfl (by kernel_rfl) (by kernel_rfl) (by kernel_rfl) (fun _ _ _ h => h) (Or.inl ⟨by rfl, ?_⟩) ⟨hk6, hkl⟩ ?_
            rotate_left
            focus (intro W hSw; go_simp; try (with_reducible rfl))
            try simp only [Act.put, List.setIfInBounds_toArray, List.set_cons_zero, List.set_cons_succ]
            refine wpAnyH_done (by kernel_rfl) ?_ _
            have HKZ := Lib.hid (show Keeps No w _ from KWE.out.trans hk6 (fun i hi => .inr (by have hi : i = w.heap.size := hi; omega)))
            have HOZ := Lib.hid (hk6.ow HOE.out (fun q hq h => by have := own_base HOE.out q hq; have h : q = w.heap.size := h; omega))
            have HZZ := Lib.hid (stF_heapd HZE.out (.int .i64 b0) (.int .u32 g0) (.int .u32 g1) (.int .u32 g2) (.int .u32 g3) (.int .u32 g4) (.slice A7 pl.length c7))
            clear hw23 hw31 hk6 hkl d0 d1 d2 d3 d4 d5 d6 hneB hcutT hcutP hcut2
            go_wp2
            show bodyPost _ _ _ _ _ ((stF we w.heap.size (.int .i64 b0) (.int .u32 g0) (.int .u32 g1) (.int .u32 g2) (.int .u32 g3) (.int .u32 g4) (.slice A7 pl.length c7)).drew)
            generalize (stF we w.heap.size (.int .i64 b0) (.int .u32 g0) (.int .u32 g1) (.int .u32 g2) (.int .u32 g3) (.int .u32 g4) (.slice A7 pl.length c7)).drew = wz at *
            have q0 : wz.cell? ⟨w.heap.size, 0, none⟩ = some (.int .i64 b0) := by rw [blk_cell HZZ.out]; rfl
            have q1 : wz.cell? ⟨w.heap.size, 1, none⟩ = some (.int .u32 g0) := by rw [blk_cell HZZ.out]; rfl
            have q2 : wz.cell? ⟨w.heap.size, 2, none⟩ = some (.int .u32 g1) := by rw [blk_cell HZZ.out]; rfl
            have q3 : wz.cell? ⟨w.heap.size, 3, none⟩ = some (.int .u32 g2) := by rw [blk_cell HZZ.out]; rfl
            have q4 : wz.cell? ⟨w.heap.size, 4, none⟩ = some (.int .u32 g3) := by rw [blk_cell HZZ.out]; rfl
            have q5 : wz.cell? ⟨w.heap.size, 5, none⟩ = some (.int .u32 g4) := by rw [blk_cell HZZ.out]; rfl
            have q6 : wz.cell? ⟨w.heap.size, 6, none⟩ = some (.slice A7 pl.length c7) := by rw [blk_cell HZZ.out]; rfl
            refine bodyPost_ret (v := .tuple #[.agg #[.int .i64 b0, .int .u32 g0, .int .u32 g1, .int .u32 g2, .int .u32 g3, .int .u32 g4, .slice A7 pl.length c7], .int .u64 vt, .int .i64 0]) (by simp [results, Tryd.results52, go_sem, q0, q1, q2, q3, q4, q5, q6]) rfl ?_
            have hF : decF l = ⟨b0, g0, g1, g2, g3, g4, pl⟩ := by rw [HFR.out]; exact if_pos HE.out
            have hT : decT l = vt := by rw [← HVT.out]; unfold decT; rw [if_pos HE.out, HN.out]
            refine ⟨.slice A7 pl.length c7, by rw [hF, hT, HE.out]; rfl, ?_, HKZ.out⟩
            rw [hF]
            exact own_less HOZ.out (by omega)
        · have hkb : ((sm : Int) != (k : Int)) = true := by simp [bne, beq_int, hk]
          have HE := Lib.hid (show decE l = 11 from by rw [HE1.out, if_pos hk])
          clear hk
          go_wp2_with fail
          have hk6 := (Keeps.refl No w0).drew
          have hkl := (Keeps.refl No w0).drew
          refine wp_region_held_drew (S := fun W => Keeps No w0 W ∧ Keeps No w0 W) (by kernel_rfl) ⟨hk6, hkl⟩ (fun _ => ?_)
          refine wpAnyH_got (fuel := 11) (i := 0) (d := 27) (v := ?_) rfl rfl (by kernel_rfl) (by kernel_rfl) (by kernel_rfl) (fun _ _ _ h => h) (Or.inl ⟨by rfl, ?_⟩) ⟨hk6, hkl⟩ ?_
          rotate_left
          focus (intro W hSw; go_simp; try (with_reducible rfl))
          try simp only [Act.put, List.setIfInBounds_toArray, List.set_cons_zero, List.set_cons_succ]
          refine wpAnyH_got (fuel := 10) (i := 1) (d := 28) (v := ?_) rfl rfl (by kernel_rfl) (by kernel_rfl) (by kernel_rfl) (fun _ _ _ h => h) (Or.inl ⟨by rfl, ?_⟩) ⟨hk6, hkl⟩ ?_
          rotate_left
          focus (intro W hSw; go_simp; try (with_reducible rfl))
          try simp only [Act.put, List.setIfInBounds_toArray, List.set_cons_zero, List.set_cons_succ]
          refine wpAnyH_got (fuel := 9) (i := 2) (d := 29) (v := ?_) rfl rfl (by kernel_rfl) (by kernel_rfl) (by kernel_rfl) (fun _ _ _ h => h) (Or.inl ⟨by rfl, ?_⟩) ⟨hk6, hkl⟩ ?_
          rotate_left
          focus (intro W hSw; go_simp; try (with_reducible rfl))
          try simp only [Act.put, List.setIfInBounds_toArray, List.set_cons_zero, List.set_cons_succ]
          refine wpAnyH_got (fuel := 8) (i := 3) (d := 30) (v := ?_) rfl rfl (by kernel_rfl) (by kernel_rfl) (by kernel_rfl) (fun _ _ _ h => h) (Or.inl ⟨by rfl, ?_⟩) ⟨hk6, hkl⟩ ?_
          rotate_left
          focus (intro W hSw; go_simp; try (with_reducible rfl))
          try simp only [Act.put, List.setIfInBounds_toArray, List.set_cons_zero, List.set_cons_succ]
          refine wpAnyH_got (fuel := 7) (i := 5) (d := 32) (v := ?_) rfl rfl (by kernel_rfl) (by kernel_rfl) (by kernel_rfl) (fun _ _ _ h => h) (Or.inl ⟨by rfl, ?_⟩) ⟨hk6, hkl⟩ ?_
          rotate_left
          focus (intro W hSw; go_simp; try (with_reducible rfl))
          try simp only [Act.put, List.setIfInBounds_toArray, List.set_cons_zero, List.set_cons_succ]
          refine wpAnyH_got (fuel := 6) (i := 6) (d := 33) (v := ?_) rfl rfl (by kernel_rfl) (by kernel_rfl) (by kernel_rfl) (fun _ _ _ h => h) (Or.inl ⟨by rfl, ?_⟩) ⟨hk6, hkl⟩ ?_
          rotate_left
          focus (intro W hSw; go_simp; try (with_reducible rfl))
          try simp only [Act.put, List.setIfInBounds_toArray, List.set_cons_zero, List.set_cons_succ]
          refine wpAnyH_got (fuel := 5) (i := 7) (d := 34) (v := ?_) rfl rfl (by kernel_rfl) (by kernel_rfl) (by kernel_rfl) (fun _ _ _ h => h) (Or.inl ⟨by rfl, ?_⟩) ⟨hk6, hkl⟩ ?_
          rotate_left
          focus (intro W hSw; go_simp; try (with_reducible rfl))
          try simp only [Act.put, List.setIfInBounds_toArray, List.set_cons_zero, List.set_cons_succ]
          refine wpAnyH_got (fuel := 4) (i := 8) (d := 35) (v := ?_) rfl rfl (by kernel_rfl) (by kernel_rfl) (by kernel_rfl) (fun _ _ _ h => h) (Or.inl ⟨by rfl, ?_⟩) ⟨hk6, hkl⟩ ?_
          rotate_left
          focus (intro W hSw; go_simp; try (with_reducible rfl))
          try simp only [Act.put, List.setIfInBounds_toArray, List.set_cons_zero, List.set_cons_succ]
          refine wpAnyH_only (fuel := 3) (i := 4) (by kernel_rfl) rfl (fun K hK => ?_)
          go_simp
          refine (HP3.out _ hk6 _).mono ?_
          rintro e wa ⟨rfl, hw⟩
          have hkx := keeps_eq hw
          clear hw
          try (go_wp2_with fail)
          refine hK.out _ _ ⟨⟨hk6.then hkx, hkl.then hkx⟩, ?_⟩
          clear hK K
          refine wpAnyH_strong (S' := fun W => Keeps No w0 W ∧ Keeps No wa W) (fun W k => ⟨k.1, hkl.then (hkx.then k.2)⟩) _ _ _ _ ?_
          replace hk6 := hk6.then hkx
          replace hkl := Keeps.refl No wa
          clear hkx
          try simp only [Act.put, List.setIfInBounds_toArray, List.set_cons_zero, List.set_cons_succ]
          refine wpAnyH_only (fuel := 2) (i := 9) (by kernel_rfl) rfl (fun K hK => ?_)
          go_simp
          refine (HP4.out _ hk6 _).mono ?_
          rintro e wb ⟨rfl, hw⟩
          have hkx := keeps_eq hw
          clear hw
          try (go_wp2_with fail)
          refine hK.out _ _ ⟨⟨hk6.then hkx, hkl.then hkx⟩, ?_⟩
          clear hK K
          refine wpAnyH_strong (S' := fun W => Keeps No w0 W ∧ Keeps No wb W) (fun W k => ⟨k.1, hkl.then (hkx.then k.2)⟩) _ _ _ _ ?_
          replace hk6 := hk6.then hkx
          replace hkl := Keeps.refl No wb
          clear hkx
          try simp only [Act.put, List.setIfInBounds_toArray, List.set_cons_zero, List.set_cons_succ]
          refine wpAnyH_got (fuel := 1) (i := 10) (d := 37) (v := ?_) rfl rfl (by kernel_rfl) (by kernel_rfl) (by kernel_rfl) (fun _ _ _ h => h) (Or.inl ⟨by rfl, ?_⟩) ⟨hk6, hkl⟩ ?_
          rotate_left
          focus (intro W hSw; go_simp; try (with_reducible rfl))
          try simp only [Act.put, List.setIfInBounds_toArray, List.set_cons_zero, List.set_cons_succ]
          refine wpAnyH_got (fuel := 0) (i := 11) (d := 38) (v := ?_) rfl rfl (by kernel_rfl) (by kernel_rfl) (by kernel_rfl) (fun _ _ _ h => h) (Or.inl ⟨by rfl, ?_⟩) ⟨hk6, hkl⟩ ?_
          rotate_left
          focus (intro W hSw; go_simp; try (with_reducible rfl))
          try simp only [Act.put, List.setIfInBounds_toArray, List.set_cons_zero, List.set_cons_succ]
          refine wpAnyH_done (by kernel_rfl) ?_ _
          have HK6 := Lib.hid hk6
          clear hk6 hkl hw31 z0 z1 z2 z3 z4 z5 z6 y0 y1 y2 y3 y4 y5 y6
          have HZB := Lib.hid (HK6.out.heap HNE.out (fun h => h))
          have KB := Lib.hid (K0.out.then HK6.out)
          have z0 : wb.cell? ⟨w.heap.size, 0, none⟩ = some (.int .i64 0) := by rw [blk_cell HZB.out]; rfl
          have z1 : wb.cell? ⟨w.heap.size, 1, none⟩ = some (.int .u32 0) := by rw [blk_cell HZB.out]; rfl
          have z2 : wb.cell? ⟨w.heap.size, 2, none⟩ = some (.int .u32 0) := by rw [blk_cell HZB.out]; rfl
          have z3 : wb.cell? ⟨w.heap.size, 3, none⟩ = some (.int .u32 0) := by rw [blk_cell HZB.out]; rfl
          have z4 : wb.cell? ⟨w.heap.size, 4, none⟩ = some (.int .u32 0) := by rw [blk_cell HZB.out]; rfl
          have z5 : wb.cell? ⟨w.heap.size, 5, none⟩ = some (.int .u32 0) := by rw [blk_cell HZB.out]; rfl
          have z6 : wb.cell? ⟨w.heap.size, 6, none⟩ = some (.slice none 0 0) := by rw [blk_cell HZB.out]; rfl
          have y0 : wb.frozen? ⟨w.heap.size, 0, none⟩ = false := blk_frozen HZB.out 0
          have y1 : wb.frozen? ⟨w.heap.size, 1, none⟩ = false := blk_frozen HZB.out 1
          have y2 : wb.frozen? ⟨w.heap.size, 2, none⟩ = false := blk_frozen HZB.out 2
          have y3 : wb.frozen? ⟨w.heap.size, 3, none⟩ = false := blk_frozen HZB.out 3
          have y4 : wb.frozen? ⟨w.heap.size, 4, none⟩ = false := blk_frozen HZB.out 4
          have y5 : wb.frozen? ⟨w.heap.size, 5, none⟩ = false := blk_frozen HZB.out 5
          have y6 : wb.frozen? ⟨w.heap.size, 6, none⟩ = false := blk_frozen HZB.out 6
          have hzz := stF_heap HZB.out (.int .i64 0) (.int .u32 0) (.int .u32 0) (.int .u32 0) (.int .u32 0) (.int .u32 0) (.slice none 0 0)
          have HKZ := Lib.hid (show Keeps No w (stF wb w.heap.size (.int .i64 0) (.int .u32 0) (.int .u32 0) (.int .u32 0) (.int .u32 0) (.int .u32 0) (.slice none 0 0)) from KB.out.trans (stF_keeps _ _ _ _ _ _ _ _ _) (fun i hi => .inr (by have hi : i = w.heap.size := hi; omega)))
          have HZZ := Lib.hid hzz
          clear hzz
          go_wp2
          show bodyPost _ _ _ _ _ (stF wb w.heap.size (.int .i64 0) (.int .u32 0) (.int .u32 0) (.int .u32 0) (.int .u32 0) (.int .u32 0) (.slice none 0 0))
          generalize stF wb w.heap.size (.int .i64 0) (.int .u32 0) (.int .u32 0) (.int .u32 0) (.int .u32 0) (.int .u32 0) (.slice none 0 0) = wz at *
          have q0 : wz.cell? ⟨w.heap.size, 0, none⟩ = some (.int .i64 0) := by rw [blk_cell HZZ.out]; rfl
          have q1 : wz.cell? ⟨w.heap.size, 1, none⟩ = some (.int .u32 0) := by rw [blk_cell HZZ.out]; rfl
          have q2 : wz.cell? ⟨w.heap.size, 2, none⟩ = some (.int .u32 0) := by rw [blk_cell HZZ.out]; rfl
          have q3 : wz.cell? ⟨w.heap.size, 3, none⟩ = some (.int .u32 0) := by rw [blk_cell HZZ.out]; rfl
          have q4 : wz.cell? ⟨w.heap.size, 4, none⟩ = some (.int .u32 0) := by rw [blk_cell HZZ.out]; rfl
          have q5 : wz.cell? ⟨w.heap.size, 5, none⟩ = some (.int .u32 0) := by rw [blk_cell HZZ.out]; rfl
          have q6 : wz.cell? ⟨w.heap.size, 6, none⟩ = some (.slice none 0 0) := by rw [blk_cell HZZ.out]; rfl
          refine bodyPost_ret (v := .tuple #[.agg #[.int .i64 0, .int .u32 0, .int .u32 0, .int .u32 0, .int .u32 0, .int .u32 0, .slice none 0 0], .int .u64 0, .int .i64 11]) (by simp [results, Tryd.results52, go_sem, q0, q1, q2, q3, q4, q5, q6]) rfl ?_
          have hne : decE l ≠ 0 := by rw [HE.out]; decide
          exact ⟨.slice none 0 0, by rw [decF_bad hne, decT_bad hne, HE.out]; rfl, by rw [decF_bad hne]; exact Ow.nil _ _, HKZ.out⟩
end Go.Proofs.YtieipnnpkngegaaDoor
